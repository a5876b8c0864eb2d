/- Joined by a program out of this work's texts and the print's (what the law needs of them): Xq14, GvSucc, GvVS, GvPost, Xq15, GvEv, GvP1, GvQ1, GvQ2, GvP2, GvP3. -/
import Derived.Test.YtfgbkklhjocmjaaDoorKd4
set_option linter.unusedVariables false
set_option linter.unusedSimpArgs false
namespace Go.Proofs.YtfgbkklhjocmjaaDoor.Xq
open Go.RowKit Go.Proofs.YtfgbkklhjocmjaaDoorW.PrintWords Go.Proofs.YtfgbkklhjocmjaaDoorW.PrintLast Go.Proofs.YtfgbkklhjocmjaaDoorW.PrintMore
attribute [local go_sem] max2_int min2_int max_two min_two max_three min_three max_four min_four
def r4_Postorder.l0 : Nat → List Int → List (List Int) → List Bool → List Int → List Int → Option (List Int)
 | 0, _, _, _, _, _ => none
 | k + 1, x5, x6, x7, x8, x9 => if (x8.length : Int) > 0 then (if 0 ≤ (wrap64 ((x8.length : Int) - 1)) then (if (wrap64 ((x8.length : Int) - 1)) < (x8.length : Int) then (if (wrap64 ((x8.length : Int) - 1)) < (x9.length : Int) then (if 0 ≤ (rd x8 (wrap64 ((x8.length : Int) - 1))) then (if (rd x8 (wrap64 ((x8.length : Int) - 1))) < (x6.length : Int) then (if (rd x9 (wrap64 ((x8.length : Int) - 1))) = ((rd_L5 x6 (rd x8 (wrap64 ((x8.length : Int) - 1)))).length : Int) then (if x5.length < 17592186044416 then (if (wrap64 ((x8.length : Int) - 1)) ≤ (x8.length : Int) then (if (wrap64 ((x8.length : Int) - 1)) ≤ (x9.length : Int) then (r4_Postorder.l0 k (x5 ++ [rd x8 (wrap64 ((x8.length : Int) - 1))]) x6 x7 (x8.take ((wrap64 ((x8.length : Int) - 1)) : Int).toNat) (x9.take ((wrap64 ((x8.length : Int) - 1)) : Int).toNat)) else (none)) else (none)) else (none)) else ((some (x9.set ((wrap64 ((x8.length : Int) - 1)) : Int).toNat (wrap64 ((rd x9 (wrap64 ((x8.length : Int) - 1))) + 1)) : List Int)).bind fun y395 => (if 0 ≤ (rd x9 (wrap64 ((x8.length : Int) - 1))) then (if (rd x9 (wrap64 ((x8.length : Int) - 1))) < ((rd_L5 x6 (rd x8 (wrap64 ((x8.length : Int) - 1)))).length : Int) then (if 0 ≤ (rd (rd_L5 x6 (rd x8 (wrap64 ((x8.length : Int) - 1)))) (rd x9 (wrap64 ((x8.length : Int) - 1)))) then (if (rd (rd_L5 x6 (rd x8 (wrap64 ((x8.length : Int) - 1)))) (rd x9 (wrap64 ((x8.length : Int) - 1)))) < (x7.length : Int) then (if (rdOf false x7 (rd (rd_L5 x6 (rd x8 (wrap64 ((x8.length : Int) - 1)))) (rd x9 (wrap64 ((x8.length : Int) - 1)))) = true) then (r4_Postorder.l0 k x5 x6 x7 x8 y395) else (if x8.length < 17592186044416 then (if y395.length < 17592186044416 then (r4_Postorder.l0 k x5 x6 (x7.set ((rd (rd_L5 x6 (rd x8 (wrap64 ((x8.length : Int) - 1)))) (rd x9 (wrap64 ((x8.length : Int) - 1)))) : Int).toNat true) (x8 ++ [rd (rd_L5 x6 (rd x8 (wrap64 ((x8.length : Int) - 1)))) (rd x9 (wrap64 ((x8.length : Int) - 1)))]) (y395 ++ [0])) else (none)) else (none))) else (none)) else (none)) else (none)) else (none)))) else (none)) else (none)) else (none)) else (none)) else (none)) else (some x5)
def r4_Postorder.f (k : Nat) (a0_0 : Int) (l0_1 : List (S53)) (a1 : Int) : Option (List Int) := (r4_Node.f k a0_0 l0_1 a1).bind fun t369 => (if t369 = true then ((r4_Lists.f k a0_0 l0_1).bind fun t370 => (if 0 ≤ a0_0 then (if (a0_0 : Int).toNat ≤ 281474976710656 then ((some (List.replicate (a0_0 : Int).toNat false : List Bool)).bind fun y373 => (if 0 ≤ a1 then (if a1 < (y373.length : Int) then (r4_Postorder.l0 k ([] : List Int) t370 (y373.set (a1 : Int).toNat true) (([a1] : List Int)) (([0] : List Int))) else (none)) else (none))) else (none)) else (none))) else (some ([] : List Int)))
set_option maxHeartbeats 8000000 in
set_option maxRecDepth 100000 in
theorem r4_Postorder.calls (k : Nat) (a0_0 : Int) (A0_1 : Option Addr) (c0_1 : Nat) (l0_1 : List (S53)) (a1 : Int) (r : List Int) (w : World) (hr0_1 : Kd.C k53 w A0_1 l0_1.length l0_1) (hc0_1 : l0_1.length ≤ c0_1) (h : r4_Postorder.f k a0_0 l0_1 a1 = some r) :
  Calls Tryd.prog 44 #[.agg #[.int .i64 a0_0, .slice A0_1 l0_1.length c0_1], .int .i64 a1] w fun e w' => ∃ v0_ : Value, e = .returned (v0_) ∧ Kd.R (Kd.int .i64) 3 w' w.heap.size (fun _ => True) v0_ r ∧ Below w.heap.size w w' := by
 have hu24 := Tryd.underlying24
 have HR0_1 := aM_ hr0_1
 have HC0_1 := aM_ hc0_1
 clear hr0_1 hc0_1
 have HB := aM_ (Below.refl w.heap.size w)
 have H : ((r4_Node.f k a0_0 l0_1 a1).bind fun t369 => (if t369 = true then ((r4_Lists.f k a0_0 l0_1).bind fun t370 => (if 0 ≤ a0_0 then (if (a0_0 : Int).toNat ≤ 281474976710656 then ((some (List.replicate (a0_0 : Int).toNat false : List Bool)).bind fun y373 => (if 0 ≤ a1 then (if a1 < (y373.length : Int) then (r4_Postorder.l0 k ([] : List Int) t370 (y373.set (a1 : Int).toNat true) (([a1] : List Int)) (([0] : List Int))) else (none)) else (none))) else (none)) else (none))) else (some ([] : List Int)))) = some r := h
 clear h
 replace H := Option.bind_eq_some_iff.mp H
 obtain ⟨t369, A30, H⟩ := H
 replace H : (if t369 = true then ((r4_Lists.f k a0_0 l0_1).bind fun t370 => (if 0 ≤ a0_0 then (if (a0_0 : Int).toNat ≤ 281474976710656 then ((some (List.replicate (a0_0 : Int).toNat false : List Bool)).bind fun y373 => (if 0 ≤ a1 then (if a1 < (y373.length : Int) then (r4_Postorder.l0 k ([] : List Int) t370 (y373.set (a1 : Int).toNat true) (([a1] : List Int)) (([0] : List Int))) else (none)) else (none))) else (none)) else (none))) else (some ([] : List Int))) = some r := H
 have A3 := aM_ A30
 clear A30
 by_cases c4 : t369 = true
 ·subst c4
  have H1 : ((r4_Lists.f k a0_0 l0_1).bind fun t370 => (if 0 ≤ a0_0 then (if (a0_0 : Int).toNat ≤ 281474976710656 then ((some (List.replicate (a0_0 : Int).toNat false : List Bool)).bind fun y373 => (if 0 ≤ a1 then (if a1 < (y373.length : Int) then (r4_Postorder.l0 k ([] : List Int) t370 (y373.set (a1 : Int).toNat true) (([a1] : List Int)) (([0] : List Int))) else (none)) else (none))) else (none)) else (none))) = some r := by rw [if_pos rfl] at H; exact H
  clear H
  have H := H1
  clear H1
  replace H := Option.bind_eq_some_iff.mp H
  obtain ⟨t370, A50, H⟩ := H
  replace H : (if 0 ≤ a0_0 then (if (a0_0 : Int).toNat ≤ 281474976710656 then ((some (List.replicate (a0_0 : Int).toNat false : List Bool)).bind fun y373 => (if 0 ≤ a1 then (if a1 < (y373.length : Int) then (r4_Postorder.l0 k ([] : List Int) t370 (y373.set (a1 : Int).toNat true) (([a1] : List Int)) (([0] : List Int))) else (none)) else (none))) else (none)) else (none)) = some r := H
  have A5 := aM_ A50
  clear A50
  by_cases c6 : 0 ≤ a0_0
  ·rw [if_pos c6] at H
   have c6b0 := eq_true c6
   have c6b1 : decide (0 ≤ a0_0) = true := decide_eq_true c6
   clear c6
   by_cases c7 : (a0_0 : Int).toNat ≤ 281474976710656
   ·rw [if_pos c7] at H
    have c7b0 := eq_true c7
    have c7b1 : decide ((a0_0 : Int).toNat ≤ 281474976710656) = true := decide_eq_true c7
    clear c7
    obtain ⟨y373, hy373⟩ : ∃ y_ : List Bool, y_ = (List.replicate (a0_0 : Int).toNat false) := ⟨_, rfl⟩
    replace H : (if 0 ≤ a1 then (if a1 < (y373.length : Int) then (r4_Postorder.l0 k ([] : List Int) t370 (y373.set (a1 : Int).toNat true) (([a1] : List Int)) (([0] : List Int))) else (none)) else (none)) = some r := by first | (rw [hy373]; with_reducible exact H) | (have H2_ := (Option.bind_some _ _).symm.trans H; rw [hy373]; with_reducible exact H2_) | (have H2_ := (Option.bind_some _ _).symm.trans H; with_reducible exact H2_) | with_reducible exact H | (rw [hy373]; exact H) | exact H
    have Ny373 := aM_ hy373
    clear hy373
    by_cases c8 : 0 ≤ a1
    ·rw [if_pos c8] at H
     have c8b0 : decide (0 ≤ a1) = true := decide_eq_true c8
     clear c8
     by_cases c9 : a1 < (y373.length : Int)
     ·rw [if_pos c9] at H
      have c9b0 : decide (a1 < (y373.length : Int)) = true := decide_eq_true c9
      clear c9
      obtain ⟨y376, hy376⟩ : ∃ y_ : List Bool, y_ = (y373.set (a1 : Int).toNat true) := ⟨_, rfl⟩
      replace H : (r4_Postorder.l0 k ([] : List Int) t370 y376 (([a1] : List Int)) (([0] : List Int))) = some r := by first | (rw [hy376]; with_reducible exact H) | (have H2_ := (Option.bind_some _ _).symm.trans H; rw [hy376]; with_reducible exact H2_) | (have H2_ := (Option.bind_some _ _).symm.trans H; with_reducible exact H2_) | with_reducible exact H | (rw [hy376]; exact H) | exact H
      have Ny376 := aM_ hy376
      clear hy376
      obtain ⟨y377, hy377⟩ : ∃ y_ : List Int, y_ = (([a1] : List Int)) := ⟨_, rfl⟩
      replace H : (r4_Postorder.l0 k ([] : List Int) t370 y376 y377 (([0] : List Int))) = some r := by first | (rw [hy377]; with_reducible exact H) | (have H2_ := (Option.bind_some _ _).symm.trans H; rw [hy377]; with_reducible exact H2_) | (have H2_ := (Option.bind_some _ _).symm.trans H; with_reducible exact H2_) | with_reducible exact H | (rw [hy377]; exact H) | exact H
      have Ny377 := aM_ hy377
      clear hy377
      obtain ⟨y380, hy380⟩ : ∃ y_ : List Int, y_ = (([0] : List Int)) := ⟨_, rfl⟩
      replace H : (r4_Postorder.l0 k ([] : List Int) t370 y376 y377 y380) = some r := by first | (rw [hy380]; with_reducible exact H) | (have H2_ := (Option.bind_some _ _).symm.trans H; rw [hy380]; with_reducible exact H2_) | (have H2_ := (Option.bind_some _ _).symm.trans H; with_reducible exact H2_) | with_reducible exact H | (rw [hy380]; exact H) | exact H
      have Ny380 := aM_ hy380
      clear hy380
      have H' := aM_ H
      clear H
      go_enter Tryd.func44, Tryd.ntmps44
      go_wp2_with (first | ((with_reducible refine gate_dst (N := 2) rfl ?_); refine box_event ?hg (N := 2) ?hd (cs := #[.int .i64 a0_0, .slice A0_1 l0_1.length c0_1]) (t := 24) ?hr ?_; (case hd => rfl); (case hg => rfl); (case hr => first | (go_simp; done) | (go_simp; rfl)); intro gb368 hg w11 hbox hb; have n0_ := aM_ (below_step (by repeat (first | (with_reducible first | exact HB.out | apply bA_ | apply bB_ | apply bC_) | exact HB.out)) hb); have n1_ := aM_ (hbox); have n2_ := aM_ ((by rw [hg]; exact (below_size (by repeat (first | (with_reducible first | exact HB.out | apply bA_ | apply bB_ | apply bC_) | exact HB.out))) : w.heap.size ≤ gb368)); have n3_ := aM_ ((by rw [hg]; exact (below_size (by repeat (first | (with_reducible first | exact HB.out | apply bA_ | apply bB_ | apply bC_) | exact HB.out))) : w.heap.size ≤ gb368)); clear HB; have HB := n0_; have BK368 := n1_; have GW368 := n2_; have GE368 := n3_; clear n0_ n1_ n2_ n3_; clear hb hbox hg; have hcz12_0 : w11.cell? ⟨gb368, 0, none⟩ = some (.int .i64 a0_0) := (blk_cell BK368.out 0).trans rfl; have hcz12_1 : w11.cell? ⟨gb368, 1, none⟩ = some (.slice A0_1 l0_1.length c0_1) := (blk_cell BK368.out 1).trans rfl; have hfz12_0 := blk_frozen BK368.out 0; have hfz12_1 := blk_frozen BK368.out 1) | (go_at_call 16; (with_reducible refine (r4_Node.calls k a0_0 _ _ l0_1 a1 true _ ?side1 ?side2 A3.out).mono ?_); (case side1 => repeat (first | exact (Kd.C_below HR0_1.out HB.out) | (with_reducible refine Kd.C_alloc ?_ _) | (with_reducible refine Kd.C_drewN ?_ _) | (with_reducible refine Kd.C_drew ?_))); (case side2 => exact HC0_1.out); rintro e w13 ⟨rfl, hb⟩; have n0_ := aM_ (blk_below (g := gb368) (o := .cells #[.int .i64 a0_0, .slice A0_1 l0_1.length c0_1] 24 (0, 0)) (by (with_reducible repeat (first | refine blk_drewN ?_ _ | refine blk_drew ?_ | refine blk_alloc ?_ _)); exact BK368.out) hb); have n1_ := aM_ (below_step (by repeat (first | (with_reducible first | exact HB.out | apply bA_ | apply bB_ | apply bC_ | refine below_set ?_ GE368.out) | exact HB.out)) hb); clear BK368; clear HB; have BK368 := n0_; have HB := n1_; clear n0_ n1_; (try clear hb); (try clear hb2); (try clear hk); (try clear hi); have hcz14_0 : w13.cell? ⟨gb368, 0, none⟩ = some (.int .i64 a0_0) := (blk_cell BK368.out 0).trans rfl; have hcz14_1 : w13.cell? ⟨gb368, 1, none⟩ = some (.slice A0_1 l0_1.length c0_1) := (blk_cell BK368.out 1).trans rfl; have hfz14_0 := blk_frozen BK368.out 0; have hfz14_1 := blk_frozen BK368.out 1) | (go_at_call 77; (with_reducible refine (r4_Lists.calls k a0_0 _ _ l0_1 t370 _ ?side1 ?side2 A5.out).mono ?_); (case side1 => repeat (first | exact (Kd.C_below HR0_1.out HB.out) | (with_reducible refine Kd.C_alloc ?_ _) | (with_reducible refine Kd.C_drewN ?_ _) | (with_reducible refine Kd.C_drew ?_))); (case side2 => exact HC0_1.out); rintro e w15 ⟨v371, rfl, ho0, hb⟩; have n0_ := aM_ (Kd.S_lower ho0 (below_size (by repeat (first | (with_reducible first | exact HB.out | apply bA_ | apply bB_ | apply bC_ | refine below_set ?_ GE368.out) | exact HB.out)))); have n1_ := aM_ (blk_below (g := gb368) (o := .cells #[.int .i64 a0_0, .slice A0_1 l0_1.length c0_1] 24 (0, 0)) (by (with_reducible repeat (first | refine blk_drewN ?_ _ | refine blk_drew ?_ | refine blk_alloc ?_ _)); exact BK368.out) hb); have n2_ := aM_ (below_step (by repeat (first | (with_reducible first | exact HB.out | apply bA_ | apply bB_ | apply bC_ | refine below_set ?_ GE368.out) | exact HB.out)) hb); clear BK368; clear HB; have HO372 := n0_; have BK368 := n1_; have HB := n2_; clear n0_ n1_ n2_; (try clear hb); (try clear hb2); (try clear hk); (try clear hi); (try clear ho0); have hcz16_0 : w15.cell? ⟨gb368, 0, none⟩ = some (.int .i64 a0_0) := (blk_cell BK368.out 0).trans rfl; have hcz16_1 : w15.cell? ⟨gb368, 1, none⟩ = some (.slice A0_1 l0_1.length c0_1) := (blk_cell BK368.out 1).trans rfl; have hfz16_0 := blk_frozen BK368.out 0; have hfz16_1 := blk_frozen BK368.out 1) | ((with_reducible refine gate_dst (N := 23) rfl ?_); refine Kd.R_make Kd.bool _ 4 rfl (N := 23) rfl 64 _ _ rfl a0_0 rfl rfl Tryd.underlying64 (.bool false) 1 info4 rfl (by decide) (by omega) false (ok := fun _ => True) (okp := fun _ => True) rfl (fun _ hk => hk) trivial (of_decide_eq_true (by assumption)) (Nat.le_trans (Nat.mul_le_mul_right _ (of_decide_eq_true (by assumption) : a0_0.toNat ≤ 281474976710656)) (by omega)) (Below.refl _ _) (Nat.le_refl _) ?_; intro v374 w17 ho18 hb hg_ hnew_; clear hg_ hnew_; (first | rw [← Ny373.out] at ho18 | (simp only [Int.reduceToNat] at ho18; rw [← Ny373.out] at ho18)); have n0_ := aM_ (Kd.S_below (by (with_reducible repeat (first | apply Kd.S_alloc | apply Kd.S_drewN | apply Kd.S_drew)); exact HO372.out) hb); have n1_ := aM_ (Kd.R_lower ho18 (below_size (by repeat (first | (with_reducible first | exact HB.out | apply bA_ | apply bB_ | apply bC_ | refine below_set ?_ GE368.out) | exact HB.out)))); have n2_ := aM_ (blk_below (g := gb368) (o := .cells #[.int .i64 a0_0, .slice A0_1 l0_1.length c0_1] 24 (0, 0)) (by (with_reducible repeat (first | refine blk_drewN ?_ _ | refine blk_drew ?_ | refine blk_alloc ?_ _)); exact BK368.out) hb); have n3_ := aM_ (below_step (by repeat (first | (with_reducible first | exact HB.out | apply bA_ | apply bB_ | apply bC_ | refine below_set ?_ GE368.out) | exact HB.out)) hb); clear HO372; clear BK368; clear HB; have HO372 := n0_; have HO375 := n1_; have BK368 := n2_; have HB := n3_; clear n0_ n1_ n2_ n3_; clear hb ho18; have p10 : 0 ≤ (a1 : Int) := of_decide_eq_true (by assumption); have q10 : (a1 : Int) < ((y373.length : Int) : Int) := of_decide_eq_true (by assumption); obtain ⟨go10, co10, eo10, gb10, gl10, cl10, HG10⟩ := Kd.R_form HO375.out (by omega); (first | cases eo10 | (injection eo10 with ea_ en_ ec_; (first | subst ea_ | (injection ea_ with ea_; subst ea_)); subst ec_; clear en_)); have GB10 := aM_ gb10; have GG10 := aM_ HG10; clear gb10 gl10 HG10; obtain ⟨hx10_0, hf10_0⟩ := Kd.R_celln false HO375.out (a1 : Int) p10 q10; replace p10 := eq_true p10; replace q10 := eq_true q10; obtain ⟨hy19_, hz19_⟩ := Kd.R_celln false HO375.out (a1 : Int) (of_decide_eq_true (by assumption)) (of_decide_eq_true (by assumption)); have HP19 := Kd.R_putg HO375.out (a1 : Int) true) | ((with_reducible refine gate_store (t := 4) (p := 26) rfl ?_); (try (rw [drewN_self w17]; generalize hq_ : World.drewN w17 _ = w17; have n0_ := aM_ (Kd.S_at hq_ HO372.out); have n1_ := aM_ (Kd.R_at hq_ HO375.out); have n2_ := aM_ (blk_at hq_ BK368.out); have n3_ := aM_ (below_at hq_ HB.out); clear hq_ HO372 HO375 BK368 HB; have HO372 := n0_; have HO375 := n1_; have BK368 := n2_; have HB := n3_; clear n0_ n1_ n2_ n3_; (try (obtain ⟨hy19_, hz19_⟩ := Kd.R_celln false HO375.out (a1 : Int) (of_decide_eq_true (by assumption)) (of_decide_eq_true (by assumption)))); (try (have HP19 := Kd.R_putg HO375.out (a1 : Int) true)))); refine store_event (t := 4) (p := 26) (v := ?vo_w20) (w1 := (w17.setCell ⟨go10, (a1 : Int).toNat, none⟩ (.bool true))) ?hg ?ho ?hn ?hr ?_; (case ho => rfl); (case hg => rfl); (case hn => rfl); (case hr => first | (go_simp; done) | (go_simp; rfl)); intro w20 hw; have hg : w17.grownBy w20 (some go10) := (by rw [hw]; exact HP19.2); have hp_ : Kd.R Kd.bool 4 w20 w.heap.size (fun _ => True) (.slice (some ⟨go10, 0, none⟩) y373.length co10) y376 := (by rw [hw, Ny376.out]; exact HP19.1); clear HP19; have n0_ := aM_ (blk_grown (g := gb368) (o := .cells #[.int .i64 a0_0, .slice A0_1 l0_1.length c0_1] 24 (0, 0)) (by (with_reducible repeat (first | refine blk_drewN ?_ _ | refine blk_drew ?_ | refine blk_alloc ?_ _)); exact BK368.out) hg (Kd.R_ne HO375.out BK368.out (by decide))); have n1_ := aM_ (Kd.S_over' (v := (.slice (some ⟨go10, 0, none⟩) y373.length co10)) (by (with_reducible repeat (first | apply Kd.S_alloc | apply Kd.S_drewN | apply Kd.S_drew)); exact HO372.out) (Kd.R_typed HO375.out) (by decide) hg); have n2_ := aM_ (hp_); have n3_ := aM_ ((by rw [hw]; exact below_set (HB.out) GB10.out : Below w.heap.size w w20)); clear BK368; clear HO372; clear HO375; clear HB; have BK368 := n0_; have HO372 := n1_; have HO375 := n2_; have HB := n3_; clear n0_ n1_ n2_ n3_; clear hg hw hp_) | ((with_reducible refine gate_dst (N := 28) rfl ?_); refine Kd.R_lit (Kd.int .i64) _ 3 ?hg (N := 28) ?hd (xs := ([a1] : List Int)) (inner := [.int .i64 a1]) (ok := fun _ => True) (okp := fun _ => True) ?hr ?hp (fun _ hk => hk) trivial (Below.refl _ _) (Nat.le_refl _) (by simp) ?_; (case hd => rfl); (case hg => rfl); (case hr => first | (go_simp; done) | (go_simp; rfl)); (case hp => exact (Reps.one (show Kd.M (Kd.int .i64) _ _ _ a1 [.int .i64 a1] from rfl) (Reps.none _ _))); intro v378 w21 ho22 hb hg_ hnew_; clear hg_ hnew_; (first | rw [← Ny377.out] at ho22 | (simp only [Int.reduceToNat] at ho22; rw [← Ny377.out] at ho22)); have n0_ := aM_ (Kd.S_elder' (by (with_reducible repeat (first | apply Kd.S_alloc | apply Kd.S_drewN | apply Kd.S_drew)); exact HO372.out) (Kd.R_base ho22) hb); have n1_ := aM_ (Kd.R_below (by (with_reducible repeat (first | apply rA_ | apply rB_ | apply rC_)); exact HO375.out) hb); have n2_ := aM_ (Kd.R_lower ho22 (below_size (by repeat (first | (with_reducible first | exact HB.out | apply bA_ | apply bB_ | apply bC_ | refine below_set ?_ GE368.out) | exact HB.out)))); have n3_ := aM_ (blk_below (g := gb368) (o := .cells #[.int .i64 a0_0, .slice A0_1 l0_1.length c0_1] 24 (0, 0)) (by (with_reducible repeat (first | refine blk_drewN ?_ _ | refine blk_drew ?_ | refine blk_alloc ?_ _)); exact BK368.out) hb); have n4_ := aM_ (below_step (by repeat (first | (with_reducible first | exact HB.out | apply bA_ | apply bB_ | apply bC_ | refine below_set ?_ GE368.out) | exact HB.out)) hb); clear HO372; clear HO375; clear BK368; clear HB; have HO372 := n0_; have HO375 := n1_; have HO379 := n2_; have BK368 := n3_; have HB := n4_; clear n0_ n1_ n2_ n3_ n4_; clear hb ho22) | ((with_reducible refine gate_dst (N := 29) rfl ?_); refine Kd.R_lit (Kd.int .i64) _ 3 ?hg (N := 29) ?hd (xs := ([0] : List Int)) (inner := [.int .i64 0]) (ok := fun _ => True) (okp := fun _ => True) ?hr ?hp (fun _ hk => hk) trivial (Below.refl _ _) (Nat.le_refl _) (by simp) ?_; (case hd => rfl); (case hg => rfl); (case hr => first | (go_simp; done) | (go_simp; rfl)); (case hp => exact (Reps.one (show Kd.M (Kd.int .i64) _ _ _ 0 [.int .i64 0] from rfl) (Reps.none _ _))); intro v381 w23 ho24 hb hg_ hnew_; clear hg_ hnew_; (first | rw [← Ny380.out] at ho24 | (simp only [Int.reduceToNat] at ho24; rw [← Ny380.out] at ho24)); have n0_ := aM_ (Kd.S_elder' (by (with_reducible repeat (first | apply Kd.S_alloc | apply Kd.S_drewN | apply Kd.S_drew)); exact HO372.out) (Kd.R_base ho24) hb); have n1_ := aM_ (Kd.R_below (by (with_reducible repeat (first | apply rA_ | apply rB_ | apply rC_)); exact HO375.out) hb); have n2_ := aM_ (Kd.R_elder' (by (with_reducible repeat (first | apply rA_ | apply rB_ | apply rC_)); exact HO379.out) (Kd.R_base ho24) hb); have n3_ := aM_ (Kd.R_lower (Kd.R_new' ho24 (Kd.R_lt (by (with_reducible repeat (first | apply rA_ | apply rB_ | apply rC_)); exact HO379.out))) (below_size (by repeat (first | (with_reducible first | exact HB.out | apply bA_ | apply bB_ | apply bC_ | refine below_set ?_ GE368.out) | exact HB.out)))); have n4_ := aM_ (blk_below (g := gb368) (o := .cells #[.int .i64 a0_0, .slice A0_1 l0_1.length c0_1] 24 (0, 0)) (by (with_reducible repeat (first | refine blk_drewN ?_ _ | refine blk_drew ?_ | refine blk_alloc ?_ _)); exact BK368.out) hb); have n5_ := aM_ (below_step (by repeat (first | (with_reducible first | exact HB.out | apply bA_ | apply bB_ | apply bC_ | refine below_set ?_ GE368.out) | exact HB.out)) hb); clear HO372; clear HO375; clear HO379; clear BK368; clear HB; have HO372 := n0_; have HO375 := n1_; have HO379 := n2_; have HO382 := n3_; have BK368 := n4_; have HB := n5_; clear n0_ n1_ n2_ n3_ n4_ n5_; clear hb ho24))
      repeat (go_quiet (first | ((with_reducible refine gate_dst (N := 2) rfl ?_); refine box_event ?hg (N := 2) ?hd (cs := #[.int .i64 a0_0, .slice A0_1 l0_1.length c0_1]) (t := 24) ?hr ?_; (case hd => rfl); (case hg => rfl); (case hr => first | (go_simp; done) | (go_simp; rfl)); intro gb368 hg w11 hbox hb; have n0_ := aM_ (below_step (by repeat (first | (with_reducible first | exact HB.out | apply bA_ | apply bB_ | apply bC_) | exact HB.out)) hb); have n1_ := aM_ (hbox); have n2_ := aM_ ((by rw [hg]; exact (below_size (by repeat (first | (with_reducible first | exact HB.out | apply bA_ | apply bB_ | apply bC_) | exact HB.out))) : w.heap.size ≤ gb368)); have n3_ := aM_ ((by rw [hg]; exact (below_size (by repeat (first | (with_reducible first | exact HB.out | apply bA_ | apply bB_ | apply bC_) | exact HB.out))) : w.heap.size ≤ gb368)); clear HB; have HB := n0_; have BK368 := n1_; have GW368 := n2_; have GE368 := n3_; clear n0_ n1_ n2_ n3_; clear hb hbox hg; have hcz12_0 : w11.cell? ⟨gb368, 0, none⟩ = some (.int .i64 a0_0) := (blk_cell BK368.out 0).trans rfl; have hcz12_1 : w11.cell? ⟨gb368, 1, none⟩ = some (.slice A0_1 l0_1.length c0_1) := (blk_cell BK368.out 1).trans rfl; have hfz12_0 := blk_frozen BK368.out 0; have hfz12_1 := blk_frozen BK368.out 1) | (go_at_call 16; (with_reducible refine (r4_Node.calls k a0_0 _ _ l0_1 a1 true _ ?side1 ?side2 A3.out).mono ?_); (case side1 => repeat (first | exact (Kd.C_below HR0_1.out HB.out) | (with_reducible refine Kd.C_alloc ?_ _) | (with_reducible refine Kd.C_drewN ?_ _) | (with_reducible refine Kd.C_drew ?_))); (case side2 => exact HC0_1.out); rintro e w13 ⟨rfl, hb⟩; have n0_ := aM_ (blk_below (g := gb368) (o := .cells #[.int .i64 a0_0, .slice A0_1 l0_1.length c0_1] 24 (0, 0)) (by (with_reducible repeat (first | refine blk_drewN ?_ _ | refine blk_drew ?_ | refine blk_alloc ?_ _)); exact BK368.out) hb); have n1_ := aM_ (below_step (by repeat (first | (with_reducible first | exact HB.out | apply bA_ | apply bB_ | apply bC_ | refine below_set ?_ GE368.out) | exact HB.out)) hb); clear BK368; clear HB; have BK368 := n0_; have HB := n1_; clear n0_ n1_; (try clear hb); (try clear hb2); (try clear hk); (try clear hi); have hcz14_0 : w13.cell? ⟨gb368, 0, none⟩ = some (.int .i64 a0_0) := (blk_cell BK368.out 0).trans rfl; have hcz14_1 : w13.cell? ⟨gb368, 1, none⟩ = some (.slice A0_1 l0_1.length c0_1) := (blk_cell BK368.out 1).trans rfl; have hfz14_0 := blk_frozen BK368.out 0; have hfz14_1 := blk_frozen BK368.out 1) | (go_at_call 77; (with_reducible refine (r4_Lists.calls k a0_0 _ _ l0_1 t370 _ ?side1 ?side2 A5.out).mono ?_); (case side1 => repeat (first | exact (Kd.C_below HR0_1.out HB.out) | (with_reducible refine Kd.C_alloc ?_ _) | (with_reducible refine Kd.C_drewN ?_ _) | (with_reducible refine Kd.C_drew ?_))); (case side2 => exact HC0_1.out); rintro e w15 ⟨v371, rfl, ho0, hb⟩; have n0_ := aM_ (Kd.S_lower ho0 (below_size (by repeat (first | (with_reducible first | exact HB.out | apply bA_ | apply bB_ | apply bC_ | refine below_set ?_ GE368.out) | exact HB.out)))); have n1_ := aM_ (blk_below (g := gb368) (o := .cells #[.int .i64 a0_0, .slice A0_1 l0_1.length c0_1] 24 (0, 0)) (by (with_reducible repeat (first | refine blk_drewN ?_ _ | refine blk_drew ?_ | refine blk_alloc ?_ _)); exact BK368.out) hb); have n2_ := aM_ (below_step (by repeat (first | (with_reducible first | exact HB.out | apply bA_ | apply bB_ | apply bC_ | refine below_set ?_ GE368.out) | exact HB.out)) hb); clear BK368; clear HB; have HO372 := n0_; have BK368 := n1_; have HB := n2_; clear n0_ n1_ n2_; (try clear hb); (try clear hb2); (try clear hk); (try clear hi); (try clear ho0); have hcz16_0 : w15.cell? ⟨gb368, 0, none⟩ = some (.int .i64 a0_0) := (blk_cell BK368.out 0).trans rfl; have hcz16_1 : w15.cell? ⟨gb368, 1, none⟩ = some (.slice A0_1 l0_1.length c0_1) := (blk_cell BK368.out 1).trans rfl; have hfz16_0 := blk_frozen BK368.out 0; have hfz16_1 := blk_frozen BK368.out 1) | ((with_reducible refine gate_dst (N := 23) rfl ?_); refine Kd.R_make Kd.bool _ 4 rfl (N := 23) rfl 64 _ _ rfl a0_0 rfl rfl Tryd.underlying64 (.bool false) 1 info4 rfl (by decide) (by omega) false (ok := fun _ => True) (okp := fun _ => True) rfl (fun _ hk => hk) trivial (of_decide_eq_true (by assumption)) (Nat.le_trans (Nat.mul_le_mul_right _ (of_decide_eq_true (by assumption) : a0_0.toNat ≤ 281474976710656)) (by omega)) (Below.refl _ _) (Nat.le_refl _) ?_; intro v374 w17 ho18 hb hg_ hnew_; clear hg_ hnew_; (first | rw [← Ny373.out] at ho18 | (simp only [Int.reduceToNat] at ho18; rw [← Ny373.out] at ho18)); have n0_ := aM_ (Kd.S_below (by (with_reducible repeat (first | apply Kd.S_alloc | apply Kd.S_drewN | apply Kd.S_drew)); exact HO372.out) hb); have n1_ := aM_ (Kd.R_lower ho18 (below_size (by repeat (first | (with_reducible first | exact HB.out | apply bA_ | apply bB_ | apply bC_ | refine below_set ?_ GE368.out) | exact HB.out)))); have n2_ := aM_ (blk_below (g := gb368) (o := .cells #[.int .i64 a0_0, .slice A0_1 l0_1.length c0_1] 24 (0, 0)) (by (with_reducible repeat (first | refine blk_drewN ?_ _ | refine blk_drew ?_ | refine blk_alloc ?_ _)); exact BK368.out) hb); have n3_ := aM_ (below_step (by repeat (first | (with_reducible first | exact HB.out | apply bA_ | apply bB_ | apply bC_ | refine below_set ?_ GE368.out) | exact HB.out)) hb); clear HO372; clear BK368; clear HB; have HO372 := n0_; have HO375 := n1_; have BK368 := n2_; have HB := n3_; clear n0_ n1_ n2_ n3_; clear hb ho18; have p10 : 0 ≤ (a1 : Int) := of_decide_eq_true (by assumption); have q10 : (a1 : Int) < ((y373.length : Int) : Int) := of_decide_eq_true (by assumption); obtain ⟨go10, co10, eo10, gb10, gl10, cl10, HG10⟩ := Kd.R_form HO375.out (by omega); (first | cases eo10 | (injection eo10 with ea_ en_ ec_; (first | subst ea_ | (injection ea_ with ea_; subst ea_)); subst ec_; clear en_)); have GB10 := aM_ gb10; have GG10 := aM_ HG10; clear gb10 gl10 HG10; obtain ⟨hx10_0, hf10_0⟩ := Kd.R_celln false HO375.out (a1 : Int) p10 q10; replace p10 := eq_true p10; replace q10 := eq_true q10; obtain ⟨hy19_, hz19_⟩ := Kd.R_celln false HO375.out (a1 : Int) (of_decide_eq_true (by assumption)) (of_decide_eq_true (by assumption)); have HP19 := Kd.R_putg HO375.out (a1 : Int) true) | ((with_reducible refine gate_store (t := 4) (p := 26) rfl ?_); (try (rw [drewN_self w17]; generalize hq_ : World.drewN w17 _ = w17; have n0_ := aM_ (Kd.S_at hq_ HO372.out); have n1_ := aM_ (Kd.R_at hq_ HO375.out); have n2_ := aM_ (blk_at hq_ BK368.out); have n3_ := aM_ (below_at hq_ HB.out); clear hq_ HO372 HO375 BK368 HB; have HO372 := n0_; have HO375 := n1_; have BK368 := n2_; have HB := n3_; clear n0_ n1_ n2_ n3_; (try (obtain ⟨hy19_, hz19_⟩ := Kd.R_celln false HO375.out (a1 : Int) (of_decide_eq_true (by assumption)) (of_decide_eq_true (by assumption)))); (try (have HP19 := Kd.R_putg HO375.out (a1 : Int) true)))); refine store_event (t := 4) (p := 26) (v := ?vo_w20) (w1 := (w17.setCell ⟨go10, (a1 : Int).toNat, none⟩ (.bool true))) ?hg ?ho ?hn ?hr ?_; (case ho => rfl); (case hg => rfl); (case hn => rfl); (case hr => first | (go_simp; done) | (go_simp; rfl)); intro w20 hw; have hg : w17.grownBy w20 (some go10) := (by rw [hw]; exact HP19.2); have hp_ : Kd.R Kd.bool 4 w20 w.heap.size (fun _ => True) (.slice (some ⟨go10, 0, none⟩) y373.length co10) y376 := (by rw [hw, Ny376.out]; exact HP19.1); clear HP19; have n0_ := aM_ (blk_grown (g := gb368) (o := .cells #[.int .i64 a0_0, .slice A0_1 l0_1.length c0_1] 24 (0, 0)) (by (with_reducible repeat (first | refine blk_drewN ?_ _ | refine blk_drew ?_ | refine blk_alloc ?_ _)); exact BK368.out) hg (Kd.R_ne HO375.out BK368.out (by decide))); have n1_ := aM_ (Kd.S_over' (v := (.slice (some ⟨go10, 0, none⟩) y373.length co10)) (by (with_reducible repeat (first | apply Kd.S_alloc | apply Kd.S_drewN | apply Kd.S_drew)); exact HO372.out) (Kd.R_typed HO375.out) (by decide) hg); have n2_ := aM_ (hp_); have n3_ := aM_ ((by rw [hw]; exact below_set (HB.out) GB10.out : Below w.heap.size w w20)); clear BK368; clear HO372; clear HO375; clear HB; have BK368 := n0_; have HO372 := n1_; have HO375 := n2_; have HB := n3_; clear n0_ n1_ n2_ n3_; clear hg hw hp_) | ((with_reducible refine gate_dst (N := 28) rfl ?_); refine Kd.R_lit (Kd.int .i64) _ 3 ?hg (N := 28) ?hd (xs := ([a1] : List Int)) (inner := [.int .i64 a1]) (ok := fun _ => True) (okp := fun _ => True) ?hr ?hp (fun _ hk => hk) trivial (Below.refl _ _) (Nat.le_refl _) (by simp) ?_; (case hd => rfl); (case hg => rfl); (case hr => first | (go_simp; done) | (go_simp; rfl)); (case hp => exact (Reps.one (show Kd.M (Kd.int .i64) _ _ _ a1 [.int .i64 a1] from rfl) (Reps.none _ _))); intro v378 w21 ho22 hb hg_ hnew_; clear hg_ hnew_; (first | rw [← Ny377.out] at ho22 | (simp only [Int.reduceToNat] at ho22; rw [← Ny377.out] at ho22)); have n0_ := aM_ (Kd.S_elder' (by (with_reducible repeat (first | apply Kd.S_alloc | apply Kd.S_drewN | apply Kd.S_drew)); exact HO372.out) (Kd.R_base ho22) hb); have n1_ := aM_ (Kd.R_below (by (with_reducible repeat (first | apply rA_ | apply rB_ | apply rC_)); exact HO375.out) hb); have n2_ := aM_ (Kd.R_lower ho22 (below_size (by repeat (first | (with_reducible first | exact HB.out | apply bA_ | apply bB_ | apply bC_ | refine below_set ?_ GE368.out) | exact HB.out)))); have n3_ := aM_ (blk_below (g := gb368) (o := .cells #[.int .i64 a0_0, .slice A0_1 l0_1.length c0_1] 24 (0, 0)) (by (with_reducible repeat (first | refine blk_drewN ?_ _ | refine blk_drew ?_ | refine blk_alloc ?_ _)); exact BK368.out) hb); have n4_ := aM_ (below_step (by repeat (first | (with_reducible first | exact HB.out | apply bA_ | apply bB_ | apply bC_ | refine below_set ?_ GE368.out) | exact HB.out)) hb); clear HO372; clear HO375; clear BK368; clear HB; have HO372 := n0_; have HO375 := n1_; have HO379 := n2_; have BK368 := n3_; have HB := n4_; clear n0_ n1_ n2_ n3_ n4_; clear hb ho22) | ((with_reducible refine gate_dst (N := 29) rfl ?_); refine Kd.R_lit (Kd.int .i64) _ 3 ?hg (N := 29) ?hd (xs := ([0] : List Int)) (inner := [.int .i64 0]) (ok := fun _ => True) (okp := fun _ => True) ?hr ?hp (fun _ hk => hk) trivial (Below.refl _ _) (Nat.le_refl _) (by simp) ?_; (case hd => rfl); (case hg => rfl); (case hr => first | (go_simp; done) | (go_simp; rfl)); (case hp => exact (Reps.one (show Kd.M (Kd.int .i64) _ _ _ 0 [.int .i64 0] from rfl) (Reps.none _ _))); intro v381 w23 ho24 hb hg_ hnew_; clear hg_ hnew_; (first | rw [← Ny380.out] at ho24 | (simp only [Int.reduceToNat] at ho24; rw [← Ny380.out] at ho24)); have n0_ := aM_ (Kd.S_elder' (by (with_reducible repeat (first | apply Kd.S_alloc | apply Kd.S_drewN | apply Kd.S_drew)); exact HO372.out) (Kd.R_base ho24) hb); have n1_ := aM_ (Kd.R_below (by (with_reducible repeat (first | apply rA_ | apply rB_ | apply rC_)); exact HO375.out) hb); have n2_ := aM_ (Kd.R_elder' (by (with_reducible repeat (first | apply rA_ | apply rB_ | apply rC_)); exact HO379.out) (Kd.R_base ho24) hb); have n3_ := aM_ (Kd.R_lower (Kd.R_new' ho24 (Kd.R_lt (by (with_reducible repeat (first | apply rA_ | apply rB_ | apply rC_)); exact HO379.out))) (below_size (by repeat (first | (with_reducible first | exact HB.out | apply bA_ | apply bB_ | apply bC_ | refine below_set ?_ GE368.out) | exact HB.out)))); have n4_ := aM_ (blk_below (g := gb368) (o := .cells #[.int .i64 a0_0, .slice A0_1 l0_1.length c0_1] 24 (0, 0)) (by (with_reducible repeat (first | refine blk_drewN ?_ _ | refine blk_drew ?_ | refine blk_alloc ?_ _)); exact BK368.out) hb); have n5_ := aM_ (below_step (by repeat (first | (with_reducible first | exact HB.out | apply bA_ | apply bB_ | apply bC_ | refine below_set ?_ GE368.out) | exact HB.out)) hb); clear HO372; clear HO375; clear HO379; clear BK368; clear HB; have HO372 := n0_; have HO375 := n1_; have HO379 := n2_; have HO382 := n3_; have BK368 := n4_; have HB := n5_; clear n0_ n1_ n2_ n3_ n4_ n5_; clear hb ho24)); try go_wp2_with (first | ((with_reducible refine gate_dst (N := 2) rfl ?_); refine box_event ?hg (N := 2) ?hd (cs := #[.int .i64 a0_0, .slice A0_1 l0_1.length c0_1]) (t := 24) ?hr ?_; (case hd => rfl); (case hg => rfl); (case hr => first | (go_simp; done) | (go_simp; rfl)); intro gb368 hg w11 hbox hb; have n0_ := aM_ (below_step (by repeat (first | (with_reducible first | exact HB.out | apply bA_ | apply bB_ | apply bC_) | exact HB.out)) hb); have n1_ := aM_ (hbox); have n2_ := aM_ ((by rw [hg]; exact (below_size (by repeat (first | (with_reducible first | exact HB.out | apply bA_ | apply bB_ | apply bC_) | exact HB.out))) : w.heap.size ≤ gb368)); have n3_ := aM_ ((by rw [hg]; exact (below_size (by repeat (first | (with_reducible first | exact HB.out | apply bA_ | apply bB_ | apply bC_) | exact HB.out))) : w.heap.size ≤ gb368)); clear HB; have HB := n0_; have BK368 := n1_; have GW368 := n2_; have GE368 := n3_; clear n0_ n1_ n2_ n3_; clear hb hbox hg; have hcz12_0 : w11.cell? ⟨gb368, 0, none⟩ = some (.int .i64 a0_0) := (blk_cell BK368.out 0).trans rfl; have hcz12_1 : w11.cell? ⟨gb368, 1, none⟩ = some (.slice A0_1 l0_1.length c0_1) := (blk_cell BK368.out 1).trans rfl; have hfz12_0 := blk_frozen BK368.out 0; have hfz12_1 := blk_frozen BK368.out 1) | (go_at_call 16; (with_reducible refine (r4_Node.calls k a0_0 _ _ l0_1 a1 true _ ?side1 ?side2 A3.out).mono ?_); (case side1 => repeat (first | exact (Kd.C_below HR0_1.out HB.out) | (with_reducible refine Kd.C_alloc ?_ _) | (with_reducible refine Kd.C_drewN ?_ _) | (with_reducible refine Kd.C_drew ?_))); (case side2 => exact HC0_1.out); rintro e w13 ⟨rfl, hb⟩; have n0_ := aM_ (blk_below (g := gb368) (o := .cells #[.int .i64 a0_0, .slice A0_1 l0_1.length c0_1] 24 (0, 0)) (by (with_reducible repeat (first | refine blk_drewN ?_ _ | refine blk_drew ?_ | refine blk_alloc ?_ _)); exact BK368.out) hb); have n1_ := aM_ (below_step (by repeat (first | (with_reducible first | exact HB.out | apply bA_ | apply bB_ | apply bC_ | refine below_set ?_ GE368.out) | exact HB.out)) hb); clear BK368; clear HB; have BK368 := n0_; have HB := n1_; clear n0_ n1_; (try clear hb); (try clear hb2); (try clear hk); (try clear hi); have hcz14_0 : w13.cell? ⟨gb368, 0, none⟩ = some (.int .i64 a0_0) := (blk_cell BK368.out 0).trans rfl; have hcz14_1 : w13.cell? ⟨gb368, 1, none⟩ = some (.slice A0_1 l0_1.length c0_1) := (blk_cell BK368.out 1).trans rfl; have hfz14_0 := blk_frozen BK368.out 0; have hfz14_1 := blk_frozen BK368.out 1) | (go_at_call 77; (with_reducible refine (r4_Lists.calls k a0_0 _ _ l0_1 t370 _ ?side1 ?side2 A5.out).mono ?_); (case side1 => repeat (first | exact (Kd.C_below HR0_1.out HB.out) | (with_reducible refine Kd.C_alloc ?_ _) | (with_reducible refine Kd.C_drewN ?_ _) | (with_reducible refine Kd.C_drew ?_))); (case side2 => exact HC0_1.out); rintro e w15 ⟨v371, rfl, ho0, hb⟩; have n0_ := aM_ (Kd.S_lower ho0 (below_size (by repeat (first | (with_reducible first | exact HB.out | apply bA_ | apply bB_ | apply bC_ | refine below_set ?_ GE368.out) | exact HB.out)))); have n1_ := aM_ (blk_below (g := gb368) (o := .cells #[.int .i64 a0_0, .slice A0_1 l0_1.length c0_1] 24 (0, 0)) (by (with_reducible repeat (first | refine blk_drewN ?_ _ | refine blk_drew ?_ | refine blk_alloc ?_ _)); exact BK368.out) hb); have n2_ := aM_ (below_step (by repeat (first | (with_reducible first | exact HB.out | apply bA_ | apply bB_ | apply bC_ | refine below_set ?_ GE368.out) | exact HB.out)) hb); clear BK368; clear HB; have HO372 := n0_; have BK368 := n1_; have HB := n2_; clear n0_ n1_ n2_; (try clear hb); (try clear hb2); (try clear hk); (try clear hi); (try clear ho0); have hcz16_0 : w15.cell? ⟨gb368, 0, none⟩ = some (.int .i64 a0_0) := (blk_cell BK368.out 0).trans rfl; have hcz16_1 : w15.cell? ⟨gb368, 1, none⟩ = some (.slice A0_1 l0_1.length c0_1) := (blk_cell BK368.out 1).trans rfl; have hfz16_0 := blk_frozen BK368.out 0; have hfz16_1 := blk_frozen BK368.out 1) | ((with_reducible refine gate_dst (N := 23) rfl ?_); refine Kd.R_make Kd.bool _ 4 rfl (N := 23) rfl 64 _ _ rfl a0_0 rfl rfl Tryd.underlying64 (.bool false) 1 info4 rfl (by decide) (by omega) false (ok := fun _ => True) (okp := fun _ => True) rfl (fun _ hk => hk) trivial (of_decide_eq_true (by assumption)) (Nat.le_trans (Nat.mul_le_mul_right _ (of_decide_eq_true (by assumption) : a0_0.toNat ≤ 281474976710656)) (by omega)) (Below.refl _ _) (Nat.le_refl _) ?_; intro v374 w17 ho18 hb hg_ hnew_; clear hg_ hnew_; (first | rw [← Ny373.out] at ho18 | (simp only [Int.reduceToNat] at ho18; rw [← Ny373.out] at ho18)); have n0_ := aM_ (Kd.S_below (by (with_reducible repeat (first | apply Kd.S_alloc | apply Kd.S_drewN | apply Kd.S_drew)); exact HO372.out) hb); have n1_ := aM_ (Kd.R_lower ho18 (below_size (by repeat (first | (with_reducible first | exact HB.out | apply bA_ | apply bB_ | apply bC_ | refine below_set ?_ GE368.out) | exact HB.out)))); have n2_ := aM_ (blk_below (g := gb368) (o := .cells #[.int .i64 a0_0, .slice A0_1 l0_1.length c0_1] 24 (0, 0)) (by (with_reducible repeat (first | refine blk_drewN ?_ _ | refine blk_drew ?_ | refine blk_alloc ?_ _)); exact BK368.out) hb); have n3_ := aM_ (below_step (by repeat (first | (with_reducible first | exact HB.out | apply bA_ | apply bB_ | apply bC_ | refine below_set ?_ GE368.out) | exact HB.out)) hb); clear HO372; clear BK368; clear HB; have HO372 := n0_; have HO375 := n1_; have BK368 := n2_; have HB := n3_; clear n0_ n1_ n2_ n3_; clear hb ho18; have p10 : 0 ≤ (a1 : Int) := of_decide_eq_true (by assumption); have q10 : (a1 : Int) < ((y373.length : Int) : Int) := of_decide_eq_true (by assumption); obtain ⟨go10, co10, eo10, gb10, gl10, cl10, HG10⟩ := Kd.R_form HO375.out (by omega); (first | cases eo10 | (injection eo10 with ea_ en_ ec_; (first | subst ea_ | (injection ea_ with ea_; subst ea_)); subst ec_; clear en_)); have GB10 := aM_ gb10; have GG10 := aM_ HG10; clear gb10 gl10 HG10; obtain ⟨hx10_0, hf10_0⟩ := Kd.R_celln false HO375.out (a1 : Int) p10 q10; replace p10 := eq_true p10; replace q10 := eq_true q10; obtain ⟨hy19_, hz19_⟩ := Kd.R_celln false HO375.out (a1 : Int) (of_decide_eq_true (by assumption)) (of_decide_eq_true (by assumption)); have HP19 := Kd.R_putg HO375.out (a1 : Int) true) | ((with_reducible refine gate_store (t := 4) (p := 26) rfl ?_); (try (rw [drewN_self w17]; generalize hq_ : World.drewN w17 _ = w17; have n0_ := aM_ (Kd.S_at hq_ HO372.out); have n1_ := aM_ (Kd.R_at hq_ HO375.out); have n2_ := aM_ (blk_at hq_ BK368.out); have n3_ := aM_ (below_at hq_ HB.out); clear hq_ HO372 HO375 BK368 HB; have HO372 := n0_; have HO375 := n1_; have BK368 := n2_; have HB := n3_; clear n0_ n1_ n2_ n3_; (try (obtain ⟨hy19_, hz19_⟩ := Kd.R_celln false HO375.out (a1 : Int) (of_decide_eq_true (by assumption)) (of_decide_eq_true (by assumption)))); (try (have HP19 := Kd.R_putg HO375.out (a1 : Int) true)))); refine store_event (t := 4) (p := 26) (v := ?vo_w20) (w1 := (w17.setCell ⟨go10, (a1 : Int).toNat, none⟩ (.bool true))) ?hg ?ho ?hn ?hr ?_; (case ho => rfl); (case hg => rfl); (case hn => rfl); (case hr => first | (go_simp; done) | (go_simp; rfl)); intro w20 hw; have hg : w17.grownBy w20 (some go10) := (by rw [hw]; exact HP19.2); have hp_ : Kd.R Kd.bool 4 w20 w.heap.size (fun _ => True) (.slice (some ⟨go10, 0, none⟩) y373.length co10) y376 := (by rw [hw, Ny376.out]; exact HP19.1); clear HP19; have n0_ := aM_ (blk_grown (g := gb368) (o := .cells #[.int .i64 a0_0, .slice A0_1 l0_1.length c0_1] 24 (0, 0)) (by (with_reducible repeat (first | refine blk_drewN ?_ _ | refine blk_drew ?_ | refine blk_alloc ?_ _)); exact BK368.out) hg (Kd.R_ne HO375.out BK368.out (by decide))); have n1_ := aM_ (Kd.S_over' (v := (.slice (some ⟨go10, 0, none⟩) y373.length co10)) (by (with_reducible repeat (first | apply Kd.S_alloc | apply Kd.S_drewN | apply Kd.S_drew)); exact HO372.out) (Kd.R_typed HO375.out) (by decide) hg); have n2_ := aM_ (hp_); have n3_ := aM_ ((by rw [hw]; exact below_set (HB.out) GB10.out : Below w.heap.size w w20)); clear BK368; clear HO372; clear HO375; clear HB; have BK368 := n0_; have HO372 := n1_; have HO375 := n2_; have HB := n3_; clear n0_ n1_ n2_ n3_; clear hg hw hp_) | ((with_reducible refine gate_dst (N := 28) rfl ?_); refine Kd.R_lit (Kd.int .i64) _ 3 ?hg (N := 28) ?hd (xs := ([a1] : List Int)) (inner := [.int .i64 a1]) (ok := fun _ => True) (okp := fun _ => True) ?hr ?hp (fun _ hk => hk) trivial (Below.refl _ _) (Nat.le_refl _) (by simp) ?_; (case hd => rfl); (case hg => rfl); (case hr => first | (go_simp; done) | (go_simp; rfl)); (case hp => exact (Reps.one (show Kd.M (Kd.int .i64) _ _ _ a1 [.int .i64 a1] from rfl) (Reps.none _ _))); intro v378 w21 ho22 hb hg_ hnew_; clear hg_ hnew_; (first | rw [← Ny377.out] at ho22 | (simp only [Int.reduceToNat] at ho22; rw [← Ny377.out] at ho22)); have n0_ := aM_ (Kd.S_elder' (by (with_reducible repeat (first | apply Kd.S_alloc | apply Kd.S_drewN | apply Kd.S_drew)); exact HO372.out) (Kd.R_base ho22) hb); have n1_ := aM_ (Kd.R_below (by (with_reducible repeat (first | apply rA_ | apply rB_ | apply rC_)); exact HO375.out) hb); have n2_ := aM_ (Kd.R_lower ho22 (below_size (by repeat (first | (with_reducible first | exact HB.out | apply bA_ | apply bB_ | apply bC_ | refine below_set ?_ GE368.out) | exact HB.out)))); have n3_ := aM_ (blk_below (g := gb368) (o := .cells #[.int .i64 a0_0, .slice A0_1 l0_1.length c0_1] 24 (0, 0)) (by (with_reducible repeat (first | refine blk_drewN ?_ _ | refine blk_drew ?_ | refine blk_alloc ?_ _)); exact BK368.out) hb); have n4_ := aM_ (below_step (by repeat (first | (with_reducible first | exact HB.out | apply bA_ | apply bB_ | apply bC_ | refine below_set ?_ GE368.out) | exact HB.out)) hb); clear HO372; clear HO375; clear BK368; clear HB; have HO372 := n0_; have HO375 := n1_; have HO379 := n2_; have BK368 := n3_; have HB := n4_; clear n0_ n1_ n2_ n3_ n4_; clear hb ho22) | ((with_reducible refine gate_dst (N := 29) rfl ?_); refine Kd.R_lit (Kd.int .i64) _ 3 ?hg (N := 29) ?hd (xs := ([0] : List Int)) (inner := [.int .i64 0]) (ok := fun _ => True) (okp := fun _ => True) ?hr ?hp (fun _ hk => hk) trivial (Below.refl _ _) (Nat.le_refl _) (by simp) ?_; (case hd => rfl); (case hg => rfl); (case hr => first | (go_simp; done) | (go_simp; rfl)); (case hp => exact (Reps.one (show Kd.M (Kd.int .i64) _ _ _ 0 [.int .i64 0] from rfl) (Reps.none _ _))); intro v381 w23 ho24 hb hg_ hnew_; clear hg_ hnew_; (first | rw [← Ny380.out] at ho24 | (simp only [Int.reduceToNat] at ho24; rw [← Ny380.out] at ho24)); have n0_ := aM_ (Kd.S_elder' (by (with_reducible repeat (first | apply Kd.S_alloc | apply Kd.S_drewN | apply Kd.S_drew)); exact HO372.out) (Kd.R_base ho24) hb); have n1_ := aM_ (Kd.R_below (by (with_reducible repeat (first | apply rA_ | apply rB_ | apply rC_)); exact HO375.out) hb); have n2_ := aM_ (Kd.R_elder' (by (with_reducible repeat (first | apply rA_ | apply rB_ | apply rC_)); exact HO379.out) (Kd.R_base ho24) hb); have n3_ := aM_ (Kd.R_lower (Kd.R_new' ho24 (Kd.R_lt (by (with_reducible repeat (first | apply rA_ | apply rB_ | apply rC_)); exact HO379.out))) (below_size (by repeat (first | (with_reducible first | exact HB.out | apply bA_ | apply bB_ | apply bC_ | refine below_set ?_ GE368.out) | exact HB.out)))); have n4_ := aM_ (blk_below (g := gb368) (o := .cells #[.int .i64 a0_0, .slice A0_1 l0_1.length c0_1] 24 (0, 0)) (by (with_reducible repeat (first | refine blk_drewN ?_ _ | refine blk_drew ?_ | refine blk_alloc ?_ _)); exact BK368.out) hb); have n5_ := aM_ (below_step (by repeat (first | (with_reducible first | exact HB.out | apply bA_ | apply bB_ | apply bC_ | refine below_set ?_ GE368.out) | exact HB.out)) hb); clear HO372; clear HO375; clear HO379; clear BK368; clear HB; have HO372 := n0_; have HO375 := n1_; have HO379 := n2_; have HO382 := n3_; have BK368 := n4_; have HB := n5_; clear n0_ n1_ n2_ n3_ n4_ n5_; clear hb ho24)))
      go_loopg [5, 8, 9] k (fun kq v5 v8 v9 w' => ∃ (x5_1 : List Int) (x7_1 : List Bool) (x8_1 : List Int) (x9_1 : List Int), Aside0 (r4_Postorder.l0 kq x5_1 t370 x7_1 x8_1 x9_1 = some r) ∧ Aside0 (kq ≤ k) ∧ Aside0 (Kd.R (Kd.int .i64) 3 w' w.heap.size (fun k_ => some k_ ≠ (v8 : Value).ownBlock ∧ some k_ ≠ (v9 : Value).ownBlock) v5 x5_1) ∧ Aside0 (Kd.S (Kd.slice 3 (Kd.int .i64)) 31 w' w.heap.size (fun k_ => some k_ ≠ (v5 : Value).ownBlock ∧ some k_ ≠ (v8 : Value).ownBlock ∧ some k_ ≠ (v9 : Value).ownBlock) v371 t370) ∧ Aside0 (Kd.R Kd.bool 4 w' w.heap.size (fun _ => True) (.slice (some ⟨go10, 0, none⟩) y373.length co10) x7_1) ∧ Aside0 (Kd.R (Kd.int .i64) 3 w' w.heap.size (fun k_ => some k_ ≠ (v5 : Value).ownBlock ∧ some k_ ≠ (v9 : Value).ownBlock) v8 x8_1) ∧ Aside0 (Kd.R (Kd.int .i64) 3 w' w.heap.size (fun k_ => some k_ ≠ (v5 : Value).ownBlock ∧ some k_ ≠ (v8 : Value).ownBlock) v9 x9_1) ∧ Aside0 (w'.heap[gb368]? = some (.cells #[.int .i64 a0_0, (.slice A0_1 l0_1.length c0_1)] 24 (0, 0))) ∧ Aside0 (Below w.heap.size w w'))
      case atStart => exact ⟨(([] : List Int)), (y376), (y377), (y380), H', ⟨Nat.le_refl _⟩, ⟨by first | exact Kd.R_nil _ _ _ _ _ | exact Kd.N_nil _ _ _ _ _ | exact Kd.V_nil _ _ _ _ _ | exact Kd.Q_nil _ _ _ _ _ | exact Kd.S_nil _ _ _ _ _⟩, ⟨by (with_reducible repeat (first | apply Kd.S_alloc | apply Kd.S_drewN | apply Kd.S_drew)); exact Kd.S_mono HO372.out (fun _ hk => ⟨(by simp [Value.ownBlock]), ⟨hk.1.2, hk.2⟩⟩)⟩, ⟨by (with_reducible repeat (first | apply rA_ | apply rB_ | apply rC_)); exact HO375.out⟩, ⟨by (with_reducible repeat (first | apply rA_ | apply rB_ | apply rC_)); exact Kd.R_mono HO379.out (fun _ hk => ⟨(by simp [Value.ownBlock]), hk.2⟩)⟩, ⟨by (with_reducible repeat (first | apply rA_ | apply rB_ | apply rC_)); exact Kd.R_mono HO382.out (fun _ hk => ⟨(by simp [Value.ownBlock]), hk.2⟩)⟩, ⟨by (with_reducible repeat (first | refine blk_drewN ?_ _ | refine blk_drew ?_ | refine blk_alloc ?_ _)); exact BK368.out⟩, ⟨by repeat (first | (with_reducible first | exact HB.out | apply bA_ | apply bB_ | apply bC_ | refine below_set ?_ GE368.out) | exact HB.out)⟩⟩
      case round =>
       clear H'
       try clear p1
       try clear q1
       try clear hx1
       try clear p2
       try clear c4
       try clear c6
       try clear c6b0
       try clear c6b1
       try clear c7
       try clear c7b0
       try clear c7b1
       try clear c8
       try clear c8b0
       try clear c9
       try clear c9b0
       try clear p10
       try clear q10
       try clear hx10
       try clear hf10
       try clear hcz12_0
       try clear hcz12_1
       try clear hcz14_0
       try clear hcz14_1
       try clear hcz16_0
       try clear hcz16_1
       try clear hfz12_0
       try clear hfz12_1
       try clear hfz14_0
       try clear hfz14_1
       try clear hfz16_0
       try clear hfz16_1
       try clear hx10_0
       try clear p10
       try clear q10
       obtain ⟨x5_1, x7_1, x8_1, x9_1, HA, HK1, HO_5, HO_6, HO_7, HO_8, HO_9, BK368, HB⟩ := hrel
       have hl7_1 := (Kd.R_reads' HO_7.out).1
       rw [hl7_1] at HO_7
       (try simp only [hl7_1])
       (try simp only [hl7_1] at BK368)
       (try simp only [hl7_1] at HO_5)
       (try simp only [hl7_1] at HO_6)
       (try simp only [hl7_1] at HO_8)
       (try simp only [hl7_1] at HO_9)
       cases gk with
       | zero => exact absurd HA.out (by simp [r4_Postorder.l0])
       | succ k1 =>
        have H := HA.out
        clear HA
        simp only [r4_Postorder.l0] at H
        by_cases c25 : (x8_1.length : Int) > 0
        ·rw [if_pos c25] at H
         have c25b0 : decide (0 < (x8_1.length : Int)) = true := decide_eq_true c25
         have c25b1 : decide (0 < x8_1.length) = true := decide_eq_true (by omega)
         clear c25
         obtain ⟨ji26, hji26⟩ : ∃ j_ : Int, (wrap64 ((x8_1.length : Int) - 1)) = j_ := ⟨_, rfl⟩
         replace H : (if 0 ≤ (ji26) then (if (ji26) < (x8_1.length : Int) then (if (ji26) < (x9_1.length : Int) then (if 0 ≤ (rd x8_1 (ji26)) then (if (rd x8_1 (ji26)) < (t370.length : Int) then (if (rd x9_1 (ji26)) = ((rd_L5 t370 (rd x8_1 (ji26))).length : Int) then (if x5_1.length < 17592186044416 then (if (ji26) ≤ (x8_1.length : Int) then (if (ji26) ≤ (x9_1.length : Int) then (r4_Postorder.l0 k1 (x5_1 ++ [rd x8_1 (ji26)]) t370 x7_1 (x8_1.take ((ji26) : Int).toNat) (x9_1.take ((ji26) : Int).toNat)) else (none)) else (none)) else (none)) else ((some (x9_1.set ((ji26) : Int).toNat (wrap64 ((rd x9_1 (ji26)) + 1)) : List Int)).bind fun y395 => (if 0 ≤ (rd x9_1 (ji26)) then (if (rd x9_1 (ji26)) < ((rd_L5 t370 (rd x8_1 (ji26))).length : Int) then (if 0 ≤ (rd (rd_L5 t370 (rd x8_1 (ji26))) (rd x9_1 (ji26))) then (if (rd (rd_L5 t370 (rd x8_1 (ji26))) (rd x9_1 (ji26))) < (x7_1.length : Int) then (if (rdOf false x7_1 (rd (rd_L5 t370 (rd x8_1 (ji26))) (rd x9_1 (ji26))) = true) then (r4_Postorder.l0 k1 x5_1 t370 x7_1 x8_1 y395) else (if x8_1.length < 17592186044416 then (if y395.length < 17592186044416 then (r4_Postorder.l0 k1 x5_1 t370 (x7_1.set ((rd (rd_L5 t370 (rd x8_1 (ji26))) (rd x9_1 (ji26))) : Int).toNat true) (x8_1 ++ [rd (rd_L5 t370 (rd x8_1 (ji26))) (rd x9_1 (ji26))]) (y395 ++ [0])) else (none)) else (none))) else (none)) else (none)) else (none)) else (none)))) else (none)) else (none)) else (none)) else (none)) else (none)) = some r := by first | (rw [hji26] at H; exact H) | (simp only [hji26] at H ⊢; exact H)
         have hji26w : (IntKind.i64.wrap ((x8_1.length : Int) - 1)) = ji26 := (i64_w _).trans hji26
         by_cases c27 : 0 ≤ (ji26)
         ·rw [if_pos c27] at H
          have c27b0 : decide (0 ≤ (ji26)) = true := decide_eq_true c27
          clear c27
          by_cases c28 : (ji26) < (x8_1.length : Int)
          ·rw [if_pos c28] at H
           have c28b0 : decide ((ji26) < (x8_1.length : Int)) = true := decide_eq_true c28
           clear c28
           by_cases c29 : (ji26) < (x9_1.length : Int)
           ·rw [if_pos c29] at H
            have c29b0 : decide ((ji26) < (x9_1.length : Int)) = true := decide_eq_true c29
            clear c29
            by_cases c30 : 0 ≤ (rd x8_1 (ji26))
            ·rw [if_pos c30] at H
             have c30b0 : decide (0 ≤ (rd x8_1 (ji26))) = true := decide_eq_true c30
             clear c30
             by_cases c31 : (rd x8_1 (ji26)) < (t370.length : Int)
             ·rw [if_pos c31] at H
              have c31b0 : decide ((rd x8_1 (ji26)) < (t370.length : Int)) = true := decide_eq_true c31
              clear c31
              by_cases c32 : (rd x9_1 (ji26)) = ((rd_L5 t370 (rd x8_1 (ji26))).length : Int)
              ·rw [if_pos c32] at H
               have c32b0 : ((rd x9_1 (ji26)) == ((rd_L5 t370 (rd x8_1 (ji26))).length : Int)) = true := beq_iff_eq.mpr c32
               have c32b1 : ((rd x9_1 (ji26)) != ((rd_L5 t370 (rd x8_1 (ji26))).length : Int)) = false := bne_eq_false_iff_eq.mpr c32
               clear c32
               by_cases c33 : x5_1.length < 17592186044416
               ·rw [if_pos c33] at H
                have LMc33 := aM_ c33
                clear c33
                obtain ⟨y386, hy386⟩ : ∃ y_ : List Int, y_ = (x5_1 ++ [rd x8_1 (ji26)]) := ⟨_, rfl⟩
                replace H : (if (ji26) ≤ (x8_1.length : Int) then (if (ji26) ≤ (x9_1.length : Int) then (r4_Postorder.l0 k1 y386 t370 x7_1 (x8_1.take ((ji26) : Int).toNat) (x9_1.take ((ji26) : Int).toNat)) else (none)) else (none)) = some r := by first | (rw [hy386]; with_reducible exact H) | (have H2_ := (Option.bind_some _ _).symm.trans H; rw [hy386]; with_reducible exact H2_) | (have H2_ := (Option.bind_some _ _).symm.trans H; with_reducible exact H2_) | with_reducible exact H | (rw [hy386]; exact H) | exact H
                have Ny386 := aM_ hy386
                clear hy386
                by_cases c34 : (ji26) ≤ (x8_1.length : Int)
                ·rw [if_pos c34] at H
                 have c34b0 := eq_true c34
                 have c34b1 : decide ((ji26) ≤ (x8_1.length : Int)) = true := decide_eq_true c34
                 clear c34
                 obtain ⟨y389, hy389⟩ : ∃ y_ : List Int, y_ = (x8_1.take ((ji26) : Int).toNat) := ⟨_, rfl⟩
                 replace H : (if (ji26) ≤ (x9_1.length : Int) then (r4_Postorder.l0 k1 y386 t370 x7_1 y389 (x9_1.take ((ji26) : Int).toNat)) else (none)) = some r := by first | (rw [hy389]; with_reducible exact H) | (have H2_ := (Option.bind_some _ _).symm.trans H; rw [hy389]; with_reducible exact H2_) | (have H2_ := (Option.bind_some _ _).symm.trans H; with_reducible exact H2_) | with_reducible exact H | (rw [hy389]; exact H) | exact H
                 have Ny389 := aM_ hy389
                 clear hy389
                 by_cases c35 : (ji26) ≤ (x9_1.length : Int)
                 ·rw [if_pos c35] at H
                  have c35b0 := eq_true c35
                  have c35b1 : decide ((ji26) ≤ (x9_1.length : Int)) = true := decide_eq_true c35
                  clear c35
                  obtain ⟨y392, hy392⟩ : ∃ y_ : List Int, y_ = (x9_1.take ((ji26) : Int).toNat) := ⟨_, rfl⟩
                  replace H : (r4_Postorder.l0 k1 y386 t370 x7_1 y389 y392) = some r := by first | (rw [hy392]; with_reducible exact H) | (have H2_ := (Option.bind_some _ _).symm.trans H; rw [hy392]; with_reducible exact H2_) | (have H2_ := (Option.bind_some _ _).symm.trans H; with_reducible exact H2_) | with_reducible exact H | (rw [hy392]; exact H) | exact H
                  have Ny392 := aM_ hy392
                  clear hy392
                  have H' := aM_ H
                  clear H
                  obtain ⟨Ao36, co36, eo36⟩ := Kd.R_slice HO_8.out
                  subst eo36
                  have p383 : 0 ≤ ((ji26) : Int) := of_decide_eq_true (by assumption)
                  have q383 : (ji26) < (x8_1.length : Int) := of_decide_eq_true (by assumption)
                  obtain ⟨ad383, e383, hx383_0⟩ := Kd.at_int (Kd.R_reads' HO_8.out).2.2 (ji26) p383 q383
                  cases e383
                  replace p383 := eq_true p383
                  replace q383 := eq_true q383
                  obtain ⟨Ao37, co37, eo37⟩ := Kd.R_slice HO_9.out
                  subst eo37
                  have p384 : 0 ≤ ((ji26) : Int) := of_decide_eq_true (by assumption)
                  have q384 : (ji26) < (x9_1.length : Int) := of_decide_eq_true (by assumption)
                  obtain ⟨ad384, e384, hx384_0⟩ := Kd.at_int (Kd.R_reads' HO_9.out).2.2 (ji26) p384 q384
                  cases e384
                  replace p384 := eq_true p384
                  replace q384 := eq_true q384
                  obtain ⟨Ao38, co38, eo38⟩ := Kd.S_slice HO_6.out
                  subst eo38
                  have p385 : 0 ≤ ((rd x8_1 (ji26)) : Int) := of_decide_eq_true (by assumption)
                  have q385 : (rd x8_1 (ji26)) < (t370.length : Int) := of_decide_eq_true (by assumption)
                  obtain ⟨ad385, A385_0, c385_0, e385, hx385_0, hl385_0, hi385_0⟩ := at_L5 (Kd.S_reads' HO_6.out).2.2 (rd x8_1 (ji26)) p385 q385
                  cases e385
                  obtain ⟨ce385, hce385, hMe385, hcc385⟩ := Kd.S_get HO_6.out [] (rd x8_1 (ji26)) p385 (by first | exact q385 | exact of_decide_eq_true (by assumption) | (have e_ := (Kd.S_reads' HO_6.out).1; omega))
                  obtain ⟨ve385_0, rfl, ge385_0⟩ := hMe385
                  have hv385_0 := hcc385 0 _ rfl
                  rw [Nat.add_zero, show ((Kd.slice 3 (Kd.int .i64))).sz = 1 from rfl, Nat.mul_one] at hv385_0
                  replace hv385_0 := Option.some.inj (hv385_0.symm.trans hx385_0)
                  rw [hv385_0] at ge385_0
                  have HL385_0 := aM_ (show Kd.R (Kd.int .i64) 3 _ _ _ _ (rd_L5 t370 (rd x8_1 (ji26))) from ge385_0)
                  clear hv385_0 ge385_0
                  clear hcc385 hce385
                  have HR385_0 := aM_ hi385_0
                  have HC385_0 := aM_ hl385_0
                  clear hi385_0 hl385_0
                  replace p385 := eq_true p385
                  replace q385 := eq_true q385
                  go_wp2_with (first | ((with_reducible refine gate_builtin (b := .append) (xs := #[.tmp 51, .tmp 53]) rfl ?_); at_builtin; refine Kd.R_append (Kd.int .i64) (w0 := w) w.heap.size rfl (.tmp 51) (.tmp 53) 31 3 (.int .i64 0) 8 rfl Tryd.underlying31 info3 rfl (by decide) (by omega) u5 x5_1 (rd x8_1 (ji26)) [.int .i64 (rd x8_1 (ji26))] (fun k_ => some k_ ≠ (.slice (some ad383) x8_1.length co36 : Value).ownBlock ∧ some k_ ≠ (.slice (some ad384) x9_1.length co37 : Value).ownBlock) (fun _ => False) rfl rfl ?aP (fun _ hk => hk.elim) ?aF ?aO ?aB ?aS ?aL ?_; (case aP => exact rfl); (case aB => exact (by repeat (first | (with_reducible first | exact HB.out | apply bA_ | apply bB_ | apply bC_ | refine below_set ?_ GE368.out) | exact HB.out))); (case aF => exact (fun k_ hk => ⟨Kd.fresh' (Kd.R_lt (by (with_reducible repeat (first | apply rA_ | apply rB_ | apply rC_)); exact HO_8.out)) k_ hk, Kd.fresh' (Kd.R_lt (by (with_reducible repeat (first | apply rA_ | apply rB_ | apply rC_)); exact HO_9.out)) k_ hk⟩)); (case aO => exact (by (with_reducible repeat (first | apply rA_ | apply rB_ | apply rC_)); exact HO_5.out)); (case aS => exact (below_size (by repeat (first | (with_reducible first | exact HB.out | apply bA_ | apply bB_ | apply bC_ | refine below_set ?_ GE368.out) | exact HB.out)))); (case aL => have := LMc33.out; omega); intro v387 w39 ho hb hg hat; rw [← Ny386.out] at ho; have n0_ := aM_ (Kd.S_after (ok := (fun k_ => some k_ ≠ (.slice (some ad383) x8_1.length co36 : Value).ownBlock ∧ some k_ ≠ (.slice (some ad384) x9_1.length co37 : Value).ownBlock)) (by (with_reducible repeat (first | apply Kd.S_alloc | apply Kd.S_drewN | apply Kd.S_drew)); exact Kd.S_mono HO_6.out (fun _ hk => ⟨⟨hk.2.1, hk.2.2⟩, hk.1⟩)) hg hat); have n1_ := aM_ (Kd.R_over' (by (with_reducible repeat (first | apply rA_ | apply rB_ | apply rC_)); exact HO_7.out) (Kd.R_typed (by (with_reducible repeat (first | apply rA_ | apply rB_ | apply rC_)); exact HO_5.out)) (by decide) hg); have n2_ := aM_ (Kd.R_after (ok := (fun k_ => some k_ ≠ (.slice (some ad384) x9_1.length co37 : Value).ownBlock)) (by (with_reducible repeat (first | apply rA_ | apply rB_ | apply rC_)); exact Kd.R_mono HO_8.out (fun _ hk => ⟨hk.2, hk.1⟩)) hg hat); have n3_ := aM_ (Kd.R_after (ok := (fun k_ => some k_ ≠ (.slice (some ad383) x8_1.length co36 : Value).ownBlock)) (by (with_reducible repeat (first | apply rA_ | apply rB_ | apply rC_)); exact Kd.R_mono HO_9.out (fun _ hk => ⟨hk.2, hk.1⟩)) hg hat); have n4_ := aM_ (blk_grown (g := gb368) (o := .cells #[.int .i64 a0_0, .slice A0_1 l0_1.length c0_1] 24 (0, 0)) (by (with_reducible repeat (first | refine blk_drewN ?_ _ | refine blk_drew ?_ | refine blk_alloc ?_ _)); exact BK368.out) hg (Kd.R_ne HO_5.out BK368.out (by decide))); have n5_ := aM_ (Kd.R_after (ok := (fun k_ => some k_ ≠ (.slice (some ad385) t370.length co38 : Value).ownBlock ∧ some k_ ≠ (.slice (some ad383) x8_1.length co36 : Value).ownBlock ∧ some k_ ≠ (.slice (some ad384) x9_1.length co37 : Value).ownBlock)) (by (with_reducible repeat (first | apply rA_ | apply rB_ | apply rC_)); exact Kd.R_mono HL385_0.out (fun _ hk => ⟨⟨hk.2, ⟨hk.1.2.1, hk.1.2.2⟩⟩, hk.1.1⟩)) hg hat); have n6_ := aM_ (hb); have n7_ := aM_ (ho); clear HO_6; clear HO_7; clear HO_8; clear HO_9; clear BK368; clear HL385_0; clear HB; clear HO_5; have HO_6 := n0_; have HO_7 := n1_; have HO_8 := n2_; have HO_9 := n3_; have BK368 := n4_; have HL385_0 := n5_; have HB := n6_; have HO388 := n7_; clear n0_ n1_ n2_ n3_ n4_ n5_ n6_ n7_; clear ho hb hg hat; have q40 : ((ji26) : Int) ≤ ((x8_1.length : Int) : Int) := of_decide_eq_true (by assumption); obtain ⟨i040, hi040, _, hsz40, _⟩ := info_parts info3; have hcut40 := cut_to (P := Tryd.prog) 31 3 .i64 Tryd.underlying31 hi040 (some ad383) x8_1.length co36 (ji26) (of_decide_eq_true (by assumption)) q40 (Kd.R_reads' HO_8.out).2.1; have hr40 := Kd.R_take (m := ((ji26) : Int).toNat) HO_8.out (by omega); have hy40 : y389.length = ((ji26) : Int).toNat := (by rw [Ny389.out, List.length_take]; omega); rw [← Ny389.out] at hr40; rw [← hy40] at hr40 hcut40; clear hy40 hi040 hsz40 HO_8; have HO391 := aM_ hr40; clear hr40; replace q40 := eq_true q40; have q41 : ((ji26) : Int) ≤ ((x9_1.length : Int) : Int) := of_decide_eq_true (by assumption); obtain ⟨i041, hi041, _, hsz41, _⟩ := info_parts info3; have hcut41 := cut_to (P := Tryd.prog) 31 3 .i64 Tryd.underlying31 hi041 (some ad384) x9_1.length co37 (ji26) (of_decide_eq_true (by assumption)) q41 (Kd.R_reads' HO_9.out).2.1; have hr41 := Kd.R_take (m := ((ji26) : Int).toNat) HO_9.out (by omega); have hy41 : y392.length = ((ji26) : Int).toNat := (by rw [Ny392.out, List.length_take]; omega); rw [← Ny392.out] at hr41; rw [← hy41] at hr41 hcut41; clear hy41 hi041 hsz41 HO_9; have HO394 := aM_ hr41; clear hr41; replace q41 := eq_true q41))
                  repeat (go_quiet (first | ((with_reducible refine gate_builtin (b := .append) (xs := #[.tmp 51, .tmp 53]) rfl ?_); at_builtin; refine Kd.R_append (Kd.int .i64) (w0 := w) w.heap.size rfl (.tmp 51) (.tmp 53) 31 3 (.int .i64 0) 8 rfl Tryd.underlying31 info3 rfl (by decide) (by omega) u5 x5_1 (rd x8_1 (ji26)) [.int .i64 (rd x8_1 (ji26))] (fun k_ => some k_ ≠ (.slice (some ad383) x8_1.length co36 : Value).ownBlock ∧ some k_ ≠ (.slice (some ad384) x9_1.length co37 : Value).ownBlock) (fun _ => False) rfl rfl ?aP (fun _ hk => hk.elim) ?aF ?aO ?aB ?aS ?aL ?_; (case aP => exact rfl); (case aB => exact (by repeat (first | (with_reducible first | exact HB.out | apply bA_ | apply bB_ | apply bC_ | refine below_set ?_ GE368.out) | exact HB.out))); (case aF => exact (fun k_ hk => ⟨Kd.fresh' (Kd.R_lt (by (with_reducible repeat (first | apply rA_ | apply rB_ | apply rC_)); exact HO_8.out)) k_ hk, Kd.fresh' (Kd.R_lt (by (with_reducible repeat (first | apply rA_ | apply rB_ | apply rC_)); exact HO_9.out)) k_ hk⟩)); (case aO => exact (by (with_reducible repeat (first | apply rA_ | apply rB_ | apply rC_)); exact HO_5.out)); (case aS => exact (below_size (by repeat (first | (with_reducible first | exact HB.out | apply bA_ | apply bB_ | apply bC_ | refine below_set ?_ GE368.out) | exact HB.out)))); (case aL => have := LMc33.out; omega); intro v387 w39 ho hb hg hat; rw [← Ny386.out] at ho; have n0_ := aM_ (Kd.S_after (ok := (fun k_ => some k_ ≠ (.slice (some ad383) x8_1.length co36 : Value).ownBlock ∧ some k_ ≠ (.slice (some ad384) x9_1.length co37 : Value).ownBlock)) (by (with_reducible repeat (first | apply Kd.S_alloc | apply Kd.S_drewN | apply Kd.S_drew)); exact Kd.S_mono HO_6.out (fun _ hk => ⟨⟨hk.2.1, hk.2.2⟩, hk.1⟩)) hg hat); have n1_ := aM_ (Kd.R_over' (by (with_reducible repeat (first | apply rA_ | apply rB_ | apply rC_)); exact HO_7.out) (Kd.R_typed (by (with_reducible repeat (first | apply rA_ | apply rB_ | apply rC_)); exact HO_5.out)) (by decide) hg); have n2_ := aM_ (Kd.R_after (ok := (fun k_ => some k_ ≠ (.slice (some ad384) x9_1.length co37 : Value).ownBlock)) (by (with_reducible repeat (first | apply rA_ | apply rB_ | apply rC_)); exact Kd.R_mono HO_8.out (fun _ hk => ⟨hk.2, hk.1⟩)) hg hat); have n3_ := aM_ (Kd.R_after (ok := (fun k_ => some k_ ≠ (.slice (some ad383) x8_1.length co36 : Value).ownBlock)) (by (with_reducible repeat (first | apply rA_ | apply rB_ | apply rC_)); exact Kd.R_mono HO_9.out (fun _ hk => ⟨hk.2, hk.1⟩)) hg hat); have n4_ := aM_ (blk_grown (g := gb368) (o := .cells #[.int .i64 a0_0, .slice A0_1 l0_1.length c0_1] 24 (0, 0)) (by (with_reducible repeat (first | refine blk_drewN ?_ _ | refine blk_drew ?_ | refine blk_alloc ?_ _)); exact BK368.out) hg (Kd.R_ne HO_5.out BK368.out (by decide))); have n5_ := aM_ (Kd.R_after (ok := (fun k_ => some k_ ≠ (.slice (some ad385) t370.length co38 : Value).ownBlock ∧ some k_ ≠ (.slice (some ad383) x8_1.length co36 : Value).ownBlock ∧ some k_ ≠ (.slice (some ad384) x9_1.length co37 : Value).ownBlock)) (by (with_reducible repeat (first | apply rA_ | apply rB_ | apply rC_)); exact Kd.R_mono HL385_0.out (fun _ hk => ⟨⟨hk.2, ⟨hk.1.2.1, hk.1.2.2⟩⟩, hk.1.1⟩)) hg hat); have n6_ := aM_ (hb); have n7_ := aM_ (ho); clear HO_6; clear HO_7; clear HO_8; clear HO_9; clear BK368; clear HL385_0; clear HB; clear HO_5; have HO_6 := n0_; have HO_7 := n1_; have HO_8 := n2_; have HO_9 := n3_; have BK368 := n4_; have HL385_0 := n5_; have HB := n6_; have HO388 := n7_; clear n0_ n1_ n2_ n3_ n4_ n5_ n6_ n7_; clear ho hb hg hat; have q40 : ((ji26) : Int) ≤ ((x8_1.length : Int) : Int) := of_decide_eq_true (by assumption); obtain ⟨i040, hi040, _, hsz40, _⟩ := info_parts info3; have hcut40 := cut_to (P := Tryd.prog) 31 3 .i64 Tryd.underlying31 hi040 (some ad383) x8_1.length co36 (ji26) (of_decide_eq_true (by assumption)) q40 (Kd.R_reads' HO_8.out).2.1; have hr40 := Kd.R_take (m := ((ji26) : Int).toNat) HO_8.out (by omega); have hy40 : y389.length = ((ji26) : Int).toNat := (by rw [Ny389.out, List.length_take]; omega); rw [← Ny389.out] at hr40; rw [← hy40] at hr40 hcut40; clear hy40 hi040 hsz40 HO_8; have HO391 := aM_ hr40; clear hr40; replace q40 := eq_true q40; have q41 : ((ji26) : Int) ≤ ((x9_1.length : Int) : Int) := of_decide_eq_true (by assumption); obtain ⟨i041, hi041, _, hsz41, _⟩ := info_parts info3; have hcut41 := cut_to (P := Tryd.prog) 31 3 .i64 Tryd.underlying31 hi041 (some ad384) x9_1.length co37 (ji26) (of_decide_eq_true (by assumption)) q41 (Kd.R_reads' HO_9.out).2.1; have hr41 := Kd.R_take (m := ((ji26) : Int).toNat) HO_9.out (by omega); have hy41 : y392.length = ((ji26) : Int).toNat := (by rw [Ny392.out, List.length_take]; omega); rw [← Ny392.out] at hr41; rw [← hy41] at hr41 hcut41; clear hy41 hi041 hsz41 HO_9; have HO394 := aM_ hr41; clear hr41; replace q41 := eq_true q41)); try go_wp2_with (first | ((with_reducible refine gate_builtin (b := .append) (xs := #[.tmp 51, .tmp 53]) rfl ?_); at_builtin; refine Kd.R_append (Kd.int .i64) (w0 := w) w.heap.size rfl (.tmp 51) (.tmp 53) 31 3 (.int .i64 0) 8 rfl Tryd.underlying31 info3 rfl (by decide) (by omega) u5 x5_1 (rd x8_1 (ji26)) [.int .i64 (rd x8_1 (ji26))] (fun k_ => some k_ ≠ (.slice (some ad383) x8_1.length co36 : Value).ownBlock ∧ some k_ ≠ (.slice (some ad384) x9_1.length co37 : Value).ownBlock) (fun _ => False) rfl rfl ?aP (fun _ hk => hk.elim) ?aF ?aO ?aB ?aS ?aL ?_; (case aP => exact rfl); (case aB => exact (by repeat (first | (with_reducible first | exact HB.out | apply bA_ | apply bB_ | apply bC_ | refine below_set ?_ GE368.out) | exact HB.out))); (case aF => exact (fun k_ hk => ⟨Kd.fresh' (Kd.R_lt (by (with_reducible repeat (first | apply rA_ | apply rB_ | apply rC_)); exact HO_8.out)) k_ hk, Kd.fresh' (Kd.R_lt (by (with_reducible repeat (first | apply rA_ | apply rB_ | apply rC_)); exact HO_9.out)) k_ hk⟩)); (case aO => exact (by (with_reducible repeat (first | apply rA_ | apply rB_ | apply rC_)); exact HO_5.out)); (case aS => exact (below_size (by repeat (first | (with_reducible first | exact HB.out | apply bA_ | apply bB_ | apply bC_ | refine below_set ?_ GE368.out) | exact HB.out)))); (case aL => have := LMc33.out; omega); intro v387 w39 ho hb hg hat; rw [← Ny386.out] at ho; have n0_ := aM_ (Kd.S_after (ok := (fun k_ => some k_ ≠ (.slice (some ad383) x8_1.length co36 : Value).ownBlock ∧ some k_ ≠ (.slice (some ad384) x9_1.length co37 : Value).ownBlock)) (by (with_reducible repeat (first | apply Kd.S_alloc | apply Kd.S_drewN | apply Kd.S_drew)); exact Kd.S_mono HO_6.out (fun _ hk => ⟨⟨hk.2.1, hk.2.2⟩, hk.1⟩)) hg hat); have n1_ := aM_ (Kd.R_over' (by (with_reducible repeat (first | apply rA_ | apply rB_ | apply rC_)); exact HO_7.out) (Kd.R_typed (by (with_reducible repeat (first | apply rA_ | apply rB_ | apply rC_)); exact HO_5.out)) (by decide) hg); have n2_ := aM_ (Kd.R_after (ok := (fun k_ => some k_ ≠ (.slice (some ad384) x9_1.length co37 : Value).ownBlock)) (by (with_reducible repeat (first | apply rA_ | apply rB_ | apply rC_)); exact Kd.R_mono HO_8.out (fun _ hk => ⟨hk.2, hk.1⟩)) hg hat); have n3_ := aM_ (Kd.R_after (ok := (fun k_ => some k_ ≠ (.slice (some ad383) x8_1.length co36 : Value).ownBlock)) (by (with_reducible repeat (first | apply rA_ | apply rB_ | apply rC_)); exact Kd.R_mono HO_9.out (fun _ hk => ⟨hk.2, hk.1⟩)) hg hat); have n4_ := aM_ (blk_grown (g := gb368) (o := .cells #[.int .i64 a0_0, .slice A0_1 l0_1.length c0_1] 24 (0, 0)) (by (with_reducible repeat (first | refine blk_drewN ?_ _ | refine blk_drew ?_ | refine blk_alloc ?_ _)); exact BK368.out) hg (Kd.R_ne HO_5.out BK368.out (by decide))); have n5_ := aM_ (Kd.R_after (ok := (fun k_ => some k_ ≠ (.slice (some ad385) t370.length co38 : Value).ownBlock ∧ some k_ ≠ (.slice (some ad383) x8_1.length co36 : Value).ownBlock ∧ some k_ ≠ (.slice (some ad384) x9_1.length co37 : Value).ownBlock)) (by (with_reducible repeat (first | apply rA_ | apply rB_ | apply rC_)); exact Kd.R_mono HL385_0.out (fun _ hk => ⟨⟨hk.2, ⟨hk.1.2.1, hk.1.2.2⟩⟩, hk.1.1⟩)) hg hat); have n6_ := aM_ (hb); have n7_ := aM_ (ho); clear HO_6; clear HO_7; clear HO_8; clear HO_9; clear BK368; clear HL385_0; clear HB; clear HO_5; have HO_6 := n0_; have HO_7 := n1_; have HO_8 := n2_; have HO_9 := n3_; have BK368 := n4_; have HL385_0 := n5_; have HB := n6_; have HO388 := n7_; clear n0_ n1_ n2_ n3_ n4_ n5_ n6_ n7_; clear ho hb hg hat; have q40 : ((ji26) : Int) ≤ ((x8_1.length : Int) : Int) := of_decide_eq_true (by assumption); obtain ⟨i040, hi040, _, hsz40, _⟩ := info_parts info3; have hcut40 := cut_to (P := Tryd.prog) 31 3 .i64 Tryd.underlying31 hi040 (some ad383) x8_1.length co36 (ji26) (of_decide_eq_true (by assumption)) q40 (Kd.R_reads' HO_8.out).2.1; have hr40 := Kd.R_take (m := ((ji26) : Int).toNat) HO_8.out (by omega); have hy40 : y389.length = ((ji26) : Int).toNat := (by rw [Ny389.out, List.length_take]; omega); rw [← Ny389.out] at hr40; rw [← hy40] at hr40 hcut40; clear hy40 hi040 hsz40 HO_8; have HO391 := aM_ hr40; clear hr40; replace q40 := eq_true q40; have q41 : ((ji26) : Int) ≤ ((x9_1.length : Int) : Int) := of_decide_eq_true (by assumption); obtain ⟨i041, hi041, _, hsz41, _⟩ := info_parts info3; have hcut41 := cut_to (P := Tryd.prog) 31 3 .i64 Tryd.underlying31 hi041 (some ad384) x9_1.length co37 (ji26) (of_decide_eq_true (by assumption)) q41 (Kd.R_reads' HO_9.out).2.1; have hr41 := Kd.R_take (m := ((ji26) : Int).toNat) HO_9.out (by omega); have hy41 : y392.length = ((ji26) : Int).toNat := (by rw [Ny392.out, List.length_take]; omega); rw [← Ny392.out] at hr41; rw [← hy41] at hr41 hcut41; clear hy41 hi041 hsz41 HO_9; have HO394 := aM_ hr41; clear hr41; replace q41 := eq_true q41)))
                  (try simp only [← hl7_1])
                  go_roundg k1
                  case measure => have := HK1.out; omega
                  case rel => exact ⟨(y386), (x7_1), (y389), (y392), H', ⟨by have := HK1.out; omega⟩, ⟨by (try simp only [hl7_1]); (with_reducible repeat (first | apply rA_ | apply rB_ | apply rC_)); exact HO388.out⟩, ⟨by (try simp only [hl7_1]); (with_reducible repeat (first | apply Kd.S_alloc | apply Kd.S_drewN | apply Kd.S_drew)); exact Kd.S_mono HO_6.out (fun _ hk => ⟨hk.2, ⟨hk.1.1, hk.1.2⟩⟩)⟩, ⟨by (try simp only [hl7_1]); (with_reducible repeat (first | apply rA_ | apply rB_ | apply rC_)); exact HO_7.out⟩, ⟨by (try simp only [hl7_1]); (with_reducible repeat (first | apply rA_ | apply rB_ | apply rC_)); exact Kd.R_mono HO391.out (fun _ hk => ⟨hk.2, hk.1⟩)⟩, ⟨by (try simp only [hl7_1]); (with_reducible repeat (first | apply rA_ | apply rB_ | apply rC_)); exact Kd.R_mono HO394.out (fun _ hk => ⟨hk.2, hk.1⟩)⟩, ⟨by (try simp only [hl7_1]); (with_reducible repeat (first | refine blk_drewN ?_ _ | refine blk_drew ?_ | refine blk_alloc ?_ _)); exact BK368.out⟩, ⟨by repeat (first | (with_reducible first | exact HB.out | apply bA_ | apply bB_ | apply bC_ | refine below_set ?_ GE368.out) | exact HB.out)⟩⟩
                 ·rw [if_neg c35] at H
                  exact absurd H (by simp)
                ·rw [if_neg c34] at H
                 exact absurd H (by simp)
               ·rw [if_neg c33] at H
                exact absurd H (by simp)
              ·rw [if_neg c32] at H
               have c32b0 : ((rd x9_1 (ji26)) == ((rd_L5 t370 (rd x8_1 (ji26))).length : Int)) = false := beq_eq_false_iff_ne.mpr c32
               have c32b1 : ((rd x9_1 (ji26)) != ((rd_L5 t370 (rd x8_1 (ji26))).length : Int)) = true := bne_iff_ne.mpr c32
               obtain ⟨y395, hy395⟩ : ∃ y_ : List Int, y_ = (x9_1.set ((ji26) : Int).toNat (wrap64 ((rd x9_1 (ji26)) + 1))) := ⟨_, rfl⟩
               replace H : (if 0 ≤ (rd x9_1 (ji26)) then (if (rd x9_1 (ji26)) < ((rd_L5 t370 (rd x8_1 (ji26))).length : Int) then (if 0 ≤ (rd (rd_L5 t370 (rd x8_1 (ji26))) (rd x9_1 (ji26))) then (if (rd (rd_L5 t370 (rd x8_1 (ji26))) (rd x9_1 (ji26))) < (x7_1.length : Int) then (if (rdOf false x7_1 (rd (rd_L5 t370 (rd x8_1 (ji26))) (rd x9_1 (ji26))) = true) then (r4_Postorder.l0 k1 x5_1 t370 x7_1 x8_1 y395) else (if x8_1.length < 17592186044416 then (if y395.length < 17592186044416 then (r4_Postorder.l0 k1 x5_1 t370 (x7_1.set ((rd (rd_L5 t370 (rd x8_1 (ji26))) (rd x9_1 (ji26))) : Int).toNat true) (x8_1 ++ [rd (rd_L5 t370 (rd x8_1 (ji26))) (rd x9_1 (ji26))]) (y395 ++ [0])) else (none)) else (none))) else (none)) else (none)) else (none)) else (none)) = some r := by first | (rw [hy395]; with_reducible exact H) | (have H2_ := (Option.bind_some _ _).symm.trans H; rw [hy395]; with_reducible exact H2_) | (have H2_ := (Option.bind_some _ _).symm.trans H; with_reducible exact H2_) | with_reducible exact H | (rw [hy395]; exact H) | exact H
               have Ny395 := aM_ hy395
               clear hy395
               by_cases c43 : 0 ≤ (rd x9_1 (ji26))
               ·rw [if_pos c43] at H
                have c43b0 : decide (0 ≤ (rd x9_1 (ji26))) = true := decide_eq_true c43
                clear c43
                by_cases c44 : (rd x9_1 (ji26)) < ((rd_L5 t370 (rd x8_1 (ji26))).length : Int)
                ·rw [if_pos c44] at H
                 have c44b0 : decide ((rd x9_1 (ji26)) < ((rd_L5 t370 (rd x8_1 (ji26))).length : Int)) = true := decide_eq_true c44
                 clear c44
                 by_cases c45 : 0 ≤ (rd (rd_L5 t370 (rd x8_1 (ji26))) (rd x9_1 (ji26)))
                 ·rw [if_pos c45] at H
                  have c45b0 : decide (0 ≤ (rd (rd_L5 t370 (rd x8_1 (ji26))) (rd x9_1 (ji26)))) = true := decide_eq_true c45
                  clear c45
                  by_cases c46 : (rd (rd_L5 t370 (rd x8_1 (ji26))) (rd x9_1 (ji26))) < (x7_1.length : Int)
                  ·rw [if_pos c46] at H
                   have c46b0 : decide ((rd (rd_L5 t370 (rd x8_1 (ji26))) (rd x9_1 (ji26))) < (x7_1.length : Int)) = true := decide_eq_true c46
                   clear c46
                   obtain ⟨bq47, hbq47⟩ : ∃ b_ : Bool, b_ = (rdOf false x7_1 (rd (rd_L5 t370 (rd x8_1 (ji26))) (rd x9_1 (ji26)))) := ⟨_, rfl⟩
                   replace H : (if (bq47 = true) then (r4_Postorder.l0 k1 x5_1 t370 x7_1 x8_1 y395) else (if x8_1.length < 17592186044416 then (if y395.length < 17592186044416 then (r4_Postorder.l0 k1 x5_1 t370 (x7_1.set ((rd (rd_L5 t370 (rd x8_1 (ji26))) (rd x9_1 (ji26))) : Int).toNat true) (x8_1 ++ [rd (rd_L5 t370 (rd x8_1 (ji26))) (rd x9_1 (ji26))]) (y395 ++ [0])) else (none)) else (none))) = some r := by rw [← hbq47] at H; exact H
                   have Nbq47 := aM_ hbq47
                   clear hbq47
                   by_cases c48 : (bq47 = true)
                   ·subst c48
                    have H1 : (r4_Postorder.l0 k1 x5_1 t370 x7_1 x8_1 y395) = some r := by rw [if_pos rfl] at H; exact H
                    clear H
                    have H := H1
                    clear H1
                    have H' := aM_ H
                    clear H
                    obtain ⟨Ao49, co49, eo49⟩ := Kd.R_slice HO_8.out
                    subst eo49
                    have p383 : 0 ≤ ((ji26) : Int) := of_decide_eq_true (by assumption)
                    have q383 : (ji26) < (x8_1.length : Int) := of_decide_eq_true (by assumption)
                    obtain ⟨ad383, e383, hx383_0⟩ := Kd.at_int (Kd.R_reads' HO_8.out).2.2 (ji26) p383 q383
                    cases e383
                    replace p383 := eq_true p383
                    replace q383 := eq_true q383
                    obtain ⟨Ao50, co50, eo50⟩ := Kd.R_slice HO_9.out
                    subst eo50
                    have p384 : 0 ≤ ((ji26) : Int) := of_decide_eq_true (by assumption)
                    have q384 : (ji26) < (x9_1.length : Int) := of_decide_eq_true (by assumption)
                    obtain ⟨ad384, e384, hx384_0⟩ := Kd.at_int (Kd.R_reads' HO_9.out).2.2 (ji26) p384 q384
                    cases e384
                    replace p384 := eq_true p384
                    replace q384 := eq_true q384
                    obtain ⟨Ao51, co51, eo51⟩ := Kd.S_slice HO_6.out
                    subst eo51
                    have p385 : 0 ≤ ((rd x8_1 (ji26)) : Int) := of_decide_eq_true (by assumption)
                    have q385 : (rd x8_1 (ji26)) < (t370.length : Int) := of_decide_eq_true (by assumption)
                    obtain ⟨ad385, A385_0, c385_0, e385, hx385_0, hl385_0, hi385_0⟩ := at_L5 (Kd.S_reads' HO_6.out).2.2 (rd x8_1 (ji26)) p385 q385
                    cases e385
                    obtain ⟨ce385, hce385, hMe385, hcc385⟩ := Kd.S_get HO_6.out [] (rd x8_1 (ji26)) p385 (by first | exact q385 | exact of_decide_eq_true (by assumption) | (have e_ := (Kd.S_reads' HO_6.out).1; omega))
                    obtain ⟨ve385_0, rfl, ge385_0⟩ := hMe385
                    have hv385_0 := hcc385 0 _ rfl
                    rw [Nat.add_zero, show ((Kd.slice 3 (Kd.int .i64))).sz = 1 from rfl, Nat.mul_one] at hv385_0
                    replace hv385_0 := Option.some.inj (hv385_0.symm.trans hx385_0)
                    rw [hv385_0] at ge385_0
                    have HL385_0 := aM_ (show Kd.R (Kd.int .i64) 3 _ _ _ _ (rd_L5 t370 (rd x8_1 (ji26))) from ge385_0)
                    clear hv385_0 ge385_0
                    clear hcc385 hce385
                    have HR385_0 := aM_ hi385_0
                    have HC385_0 := aM_ hl385_0
                    clear hi385_0 hl385_0
                    replace p385 := eq_true p385
                    replace q385 := eq_true q385
                    have p42 : 0 ≤ ((ji26) : Int) := of_decide_eq_true (by assumption)
                    have q42 : ((ji26) : Int) < ((x9_1.length : Int) : Int) := of_decide_eq_true (by assumption)
                    obtain ⟨go42, co42, eo42, gb42, gl42, cl42, HG42⟩ := Kd.R_form HO_9.out (by omega)
                    (first | cases eo42 | (injection eo42 with ea_ en_ ec_; (first | subst ea_ | (injection ea_ with ea_; subst ea_)); subst ec_; clear en_))
                    have GB42 := aM_ gb42
                    have GG42 := aM_ HG42
                    clear gb42 gl42 HG42
                    (first | simp only [add_plain] at hx384_0 | skip)
                    obtain ⟨hx42_0, hf42_0⟩ := Kd.R_celln 0 HO_9.out ((ji26) : Int) p42 q42
                    replace p42 := eq_true p42
                    replace q42 := eq_true q42
                    obtain ⟨hy52_, hz52_⟩ := Kd.R_celln 0 HO_9.out ((ji26) : Int) (of_decide_eq_true (by assumption)) (of_decide_eq_true (by assumption))
                    have HP52 := Kd.R_putg HO_9.out ((ji26) : Int) (wrap64 ((rd x9_1 (ji26)) + 1))
                    go_wp2_with (first | ((with_reducible refine gate_store (t := 3) (p := 65) rfl ?_); (try (rw [drewN_self wr]; generalize hq_ : World.drewN wr _ = wr; have n0_ := aM_ (Kd.R_at hq_ HO_5.out); have n1_ := aM_ (Kd.S_at hq_ HO_6.out); have n2_ := aM_ (Kd.R_at hq_ HO_7.out); have n3_ := aM_ (Kd.R_at hq_ HO_8.out); have n4_ := aM_ (Kd.R_at hq_ HO_9.out); have n5_ := aM_ (Kd.R_at hq_ HL385_0.out); have n6_ := aM_ (blk_at hq_ BK368.out); have n7_ := aM_ (below_at hq_ HB.out); clear hq_ HO_5 HO_6 HO_7 HO_8 HO_9 HL385_0 BK368 HB; have HO_5 := n0_; have HO_6 := n1_; have HO_7 := n2_; have HO_8 := n3_; have HO_9 := n4_; have HL385_0 := n5_; have BK368 := n6_; have HB := n7_; clear n0_ n1_ n2_ n3_ n4_ n5_ n6_ n7_; (try (obtain ⟨hy52_, hz52_⟩ := Kd.R_celln 0 HO_9.out ((ji26) : Int) (of_decide_eq_true (by assumption)) (of_decide_eq_true (by assumption)))); (try (have HP52 := Kd.R_putg HO_9.out ((ji26) : Int) (wrap64 ((rd x9_1 (ji26)) + 1)))))); refine store_event (t := 3) (p := 65) (v := ?vo_w53) (w1 := (wr.setCell ⟨go42, ((ji26) : Int).toNat, none⟩ (.int .i64 (wrap64 ((rd x9_1 (ji26)) + 1))))) ?hg ?ho ?hn ?hr ?_; (case ho => rfl); (case hg => rfl); (case hn => rfl); (case hr => first | (go_simp; done) | (go_simp; rfl)); intro w53 hw; have hg : wr.grownBy w53 (some go42) := (by rw [hw]; exact HP52.2); have hp_ : Kd.R (Kd.int .i64) 3 w53 w.heap.size (fun k_ => some k_ ≠ (u5 : Value).ownBlock ∧ some k_ ≠ (.slice (some ad383) x8_1.length co49 : Value).ownBlock) (.slice (some ⟨go42, 0, none⟩) x9_1.length co50) y395 := (by rw [hw, Ny395.out]; exact HP52.1); clear HP52; have n0_ := aM_ (Kd.R_after (v := (.slice (some ⟨go42, 0, none⟩) x9_1.length co50)) (v1 := (.slice (some ⟨go42, 0, none⟩) x9_1.length co50)) (ok := (fun k_ => some k_ ≠ (.slice (some ad383) x8_1.length co49 : Value).ownBlock)) (by (with_reducible repeat (first | apply rA_ | apply rB_ | apply rC_)); exact HO_5.out) hg (.inl rfl)); have n1_ := aM_ (Kd.S_after (v := (.slice (some ⟨go42, 0, none⟩) x9_1.length co50)) (v1 := (.slice (some ⟨go42, 0, none⟩) x9_1.length co50)) (ok := (fun k_ => some k_ ≠ (u5 : Value).ownBlock ∧ some k_ ≠ (.slice (some ad383) x8_1.length co49 : Value).ownBlock)) (by (with_reducible repeat (first | apply Kd.S_alloc | apply Kd.S_drewN | apply Kd.S_drew)); exact Kd.S_mono HO_6.out (fun _ hk => ⟨⟨hk.1, hk.2.1⟩, hk.2.2⟩)) hg (.inl rfl)); have n2_ := aM_ (Kd.R_over' (v := (.slice (some ⟨go42, 0, none⟩) x9_1.length co50)) (by (with_reducible repeat (first | apply rA_ | apply rB_ | apply rC_)); exact HO_7.out) (Kd.R_typed HO_9.out) (by decide) hg); have n3_ := aM_ (Kd.R_after (v := (.slice (some ⟨go42, 0, none⟩) x9_1.length co50)) (v1 := (.slice (some ⟨go42, 0, none⟩) x9_1.length co50)) (ok := (fun k_ => some k_ ≠ (u5 : Value).ownBlock)) (by (with_reducible repeat (first | apply rA_ | apply rB_ | apply rC_)); exact HO_8.out) hg (.inl rfl)); have n4_ := aM_ (hp_); have n5_ := aM_ (blk_grown (g := gb368) (o := .cells #[.int .i64 a0_0, .slice A0_1 l0_1.length c0_1] 24 (0, 0)) (by (with_reducible repeat (first | refine blk_drewN ?_ _ | refine blk_drew ?_ | refine blk_alloc ?_ _)); exact BK368.out) hg (Kd.R_ne HO_9.out BK368.out (by decide))); have n6_ := aM_ (Kd.R_after (v := (.slice (some ⟨go42, 0, none⟩) x9_1.length co50)) (v1 := (.slice (some ⟨go42, 0, none⟩) x9_1.length co50)) (ok := (fun k_ => some k_ ≠ (u5 : Value).ownBlock ∧ some k_ ≠ (.slice (some ad385) t370.length co51 : Value).ownBlock ∧ some k_ ≠ (.slice (some ad383) x8_1.length co49 : Value).ownBlock)) (by (with_reducible repeat (first | apply rA_ | apply rB_ | apply rC_)); exact Kd.R_mono HL385_0.out (fun _ hk => ⟨⟨hk.1.1, ⟨hk.2, hk.1.2.1⟩⟩, hk.1.2.2⟩)) hg (.inl rfl)); have n7_ := aM_ ((by rw [hw]; exact below_set (HB.out) GB42.out : Below w.heap.size w w53)); clear HO_5; clear HO_6; clear HO_7; clear HO_8; clear HO_9; clear BK368; clear HL385_0; clear HB; have HO_5 := n0_; have HO_6 := n1_; have HO_7 := n2_; have HO_8 := n3_; have HO_9 := n4_; have BK368 := n5_; have HL385_0 := n6_; have HB := n7_; clear n0_ n1_ n2_ n3_ n4_ n5_ n6_ n7_; clear hg hw hp_; have p396 : 0 ≤ ((rd x8_1 (ji26)) : Int) := of_decide_eq_true (by assumption); have q396 : (rd x8_1 (ji26)) < (t370.length : Int) := of_decide_eq_true (by assumption); obtain ⟨ad396, A396_0, c396_0, e396, hx396_0, hl396_0, hi396_0⟩ := at_L5 (Kd.S_reads' HO_6.out).2.2 (rd x8_1 (ji26)) p396 q396; obtain rfl : ad385 = ad396 := (by injection e396); obtain ⟨ce396, hce396, hMe396, hcc396⟩ := Kd.S_get HO_6.out [] (rd x8_1 (ji26)) p396 (by first | exact q396 | exact of_decide_eq_true (by assumption) | (have e_ := (Kd.S_reads' HO_6.out).1; omega)); obtain ⟨ve396_0, rfl, ge396_0⟩ := hMe396; have hv396_0 := hcc396 0 _ rfl; rw [Nat.add_zero, show ((Kd.slice 3 (Kd.int .i64))).sz = 1 from rfl, Nat.mul_one] at hv396_0; replace hv396_0 := Option.some.inj (hv396_0.symm.trans hx396_0); rw [hv396_0] at ge396_0; have HL396_0 := aM_ (show Kd.R (Kd.int .i64) 3 _ _ _ _ (rd_L5 t370 (rd x8_1 (ji26))) from ge396_0); clear hv396_0 ge396_0; clear hcc396 hce396; have HR396_0 := aM_ hi396_0; have HC396_0 := aM_ hl396_0; clear hi396_0 hl396_0; replace p396 := eq_true p396; replace q396 := eq_true q396; have p397 : 0 ≤ ((rd x9_1 (ji26)) : Int) := of_decide_eq_true (by assumption); have q397 : (rd x9_1 (ji26)) < ((rd_L5 t370 (rd x8_1 (ji26))).length : Int) := of_decide_eq_true (by assumption); obtain ⟨ad397, e397, hx397_0⟩ := Kd.at_int (by repeat (first | (with_reducible exact HR396_0.out) | (with_reducible refine Kd.C_alloc ?_ _) | (with_reducible refine Kd.C_drewN ?_ _) | (with_reducible refine Kd.C_drew ?_) | exact HR396_0.out)) (rd x9_1 (ji26)) p397 q397; cases e397; replace p397 := eq_true p397; replace q397 := eq_true q397; have p398 : 0 ≤ ((rd (rd_L5 t370 (rd x8_1 (ji26))) (rd x9_1 (ji26))) : Int) := of_decide_eq_true (by assumption); have q398 : (rd (rd_L5 t370 (rd x8_1 (ji26))) (rd x9_1 (ji26))) < (x7_1.length : Int) := of_decide_eq_true (by assumption); obtain ⟨ad398, e398, hx398_0⟩ := Kd.at_bool (Kd.R_reads' HO_7.out).2.2 (rd (rd_L5 t370 (rd x8_1 (ji26))) (rd x9_1 (ji26))) p398 q398; (try rw [← Nbq47.out] at hx398_0); obtain rfl : (⟨go10, 0, none⟩ : Addr) = ad398 := (by injection e398); (first | simp only [add_plain] at hx398_0 | simp only [add_at] at hx398_0 | simp only [Addr.add, Nat.zero_add] at hx398_0 | skip); replace p398 := eq_true p398; replace q398 := eq_true q398))
                    repeat (go_quiet (first | ((with_reducible refine gate_store (t := 3) (p := 65) rfl ?_); (try (rw [drewN_self wr]; generalize hq_ : World.drewN wr _ = wr; have n0_ := aM_ (Kd.R_at hq_ HO_5.out); have n1_ := aM_ (Kd.S_at hq_ HO_6.out); have n2_ := aM_ (Kd.R_at hq_ HO_7.out); have n3_ := aM_ (Kd.R_at hq_ HO_8.out); have n4_ := aM_ (Kd.R_at hq_ HO_9.out); have n5_ := aM_ (Kd.R_at hq_ HL385_0.out); have n6_ := aM_ (blk_at hq_ BK368.out); have n7_ := aM_ (below_at hq_ HB.out); clear hq_ HO_5 HO_6 HO_7 HO_8 HO_9 HL385_0 BK368 HB; have HO_5 := n0_; have HO_6 := n1_; have HO_7 := n2_; have HO_8 := n3_; have HO_9 := n4_; have HL385_0 := n5_; have BK368 := n6_; have HB := n7_; clear n0_ n1_ n2_ n3_ n4_ n5_ n6_ n7_; (try (obtain ⟨hy52_, hz52_⟩ := Kd.R_celln 0 HO_9.out ((ji26) : Int) (of_decide_eq_true (by assumption)) (of_decide_eq_true (by assumption)))); (try (have HP52 := Kd.R_putg HO_9.out ((ji26) : Int) (wrap64 ((rd x9_1 (ji26)) + 1)))))); refine store_event (t := 3) (p := 65) (v := ?vo_w53) (w1 := (wr.setCell ⟨go42, ((ji26) : Int).toNat, none⟩ (.int .i64 (wrap64 ((rd x9_1 (ji26)) + 1))))) ?hg ?ho ?hn ?hr ?_; (case ho => rfl); (case hg => rfl); (case hn => rfl); (case hr => first | (go_simp; done) | (go_simp; rfl)); intro w53 hw; have hg : wr.grownBy w53 (some go42) := (by rw [hw]; exact HP52.2); have hp_ : Kd.R (Kd.int .i64) 3 w53 w.heap.size (fun k_ => some k_ ≠ (u5 : Value).ownBlock ∧ some k_ ≠ (.slice (some ad383) x8_1.length co49 : Value).ownBlock) (.slice (some ⟨go42, 0, none⟩) x9_1.length co50) y395 := (by rw [hw, Ny395.out]; exact HP52.1); clear HP52; have n0_ := aM_ (Kd.R_after (v := (.slice (some ⟨go42, 0, none⟩) x9_1.length co50)) (v1 := (.slice (some ⟨go42, 0, none⟩) x9_1.length co50)) (ok := (fun k_ => some k_ ≠ (.slice (some ad383) x8_1.length co49 : Value).ownBlock)) (by (with_reducible repeat (first | apply rA_ | apply rB_ | apply rC_)); exact HO_5.out) hg (.inl rfl)); have n1_ := aM_ (Kd.S_after (v := (.slice (some ⟨go42, 0, none⟩) x9_1.length co50)) (v1 := (.slice (some ⟨go42, 0, none⟩) x9_1.length co50)) (ok := (fun k_ => some k_ ≠ (u5 : Value).ownBlock ∧ some k_ ≠ (.slice (some ad383) x8_1.length co49 : Value).ownBlock)) (by (with_reducible repeat (first | apply Kd.S_alloc | apply Kd.S_drewN | apply Kd.S_drew)); exact Kd.S_mono HO_6.out (fun _ hk => ⟨⟨hk.1, hk.2.1⟩, hk.2.2⟩)) hg (.inl rfl)); have n2_ := aM_ (Kd.R_over' (v := (.slice (some ⟨go42, 0, none⟩) x9_1.length co50)) (by (with_reducible repeat (first | apply rA_ | apply rB_ | apply rC_)); exact HO_7.out) (Kd.R_typed HO_9.out) (by decide) hg); have n3_ := aM_ (Kd.R_after (v := (.slice (some ⟨go42, 0, none⟩) x9_1.length co50)) (v1 := (.slice (some ⟨go42, 0, none⟩) x9_1.length co50)) (ok := (fun k_ => some k_ ≠ (u5 : Value).ownBlock)) (by (with_reducible repeat (first | apply rA_ | apply rB_ | apply rC_)); exact HO_8.out) hg (.inl rfl)); have n4_ := aM_ (hp_); have n5_ := aM_ (blk_grown (g := gb368) (o := .cells #[.int .i64 a0_0, .slice A0_1 l0_1.length c0_1] 24 (0, 0)) (by (with_reducible repeat (first | refine blk_drewN ?_ _ | refine blk_drew ?_ | refine blk_alloc ?_ _)); exact BK368.out) hg (Kd.R_ne HO_9.out BK368.out (by decide))); have n6_ := aM_ (Kd.R_after (v := (.slice (some ⟨go42, 0, none⟩) x9_1.length co50)) (v1 := (.slice (some ⟨go42, 0, none⟩) x9_1.length co50)) (ok := (fun k_ => some k_ ≠ (u5 : Value).ownBlock ∧ some k_ ≠ (.slice (some ad385) t370.length co51 : Value).ownBlock ∧ some k_ ≠ (.slice (some ad383) x8_1.length co49 : Value).ownBlock)) (by (with_reducible repeat (first | apply rA_ | apply rB_ | apply rC_)); exact Kd.R_mono HL385_0.out (fun _ hk => ⟨⟨hk.1.1, ⟨hk.2, hk.1.2.1⟩⟩, hk.1.2.2⟩)) hg (.inl rfl)); have n7_ := aM_ ((by rw [hw]; exact below_set (HB.out) GB42.out : Below w.heap.size w w53)); clear HO_5; clear HO_6; clear HO_7; clear HO_8; clear HO_9; clear BK368; clear HL385_0; clear HB; have HO_5 := n0_; have HO_6 := n1_; have HO_7 := n2_; have HO_8 := n3_; have HO_9 := n4_; have BK368 := n5_; have HL385_0 := n6_; have HB := n7_; clear n0_ n1_ n2_ n3_ n4_ n5_ n6_ n7_; clear hg hw hp_; have p396 : 0 ≤ ((rd x8_1 (ji26)) : Int) := of_decide_eq_true (by assumption); have q396 : (rd x8_1 (ji26)) < (t370.length : Int) := of_decide_eq_true (by assumption); obtain ⟨ad396, A396_0, c396_0, e396, hx396_0, hl396_0, hi396_0⟩ := at_L5 (Kd.S_reads' HO_6.out).2.2 (rd x8_1 (ji26)) p396 q396; obtain rfl : ad385 = ad396 := (by injection e396); obtain ⟨ce396, hce396, hMe396, hcc396⟩ := Kd.S_get HO_6.out [] (rd x8_1 (ji26)) p396 (by first | exact q396 | exact of_decide_eq_true (by assumption) | (have e_ := (Kd.S_reads' HO_6.out).1; omega)); obtain ⟨ve396_0, rfl, ge396_0⟩ := hMe396; have hv396_0 := hcc396 0 _ rfl; rw [Nat.add_zero, show ((Kd.slice 3 (Kd.int .i64))).sz = 1 from rfl, Nat.mul_one] at hv396_0; replace hv396_0 := Option.some.inj (hv396_0.symm.trans hx396_0); rw [hv396_0] at ge396_0; have HL396_0 := aM_ (show Kd.R (Kd.int .i64) 3 _ _ _ _ (rd_L5 t370 (rd x8_1 (ji26))) from ge396_0); clear hv396_0 ge396_0; clear hcc396 hce396; have HR396_0 := aM_ hi396_0; have HC396_0 := aM_ hl396_0; clear hi396_0 hl396_0; replace p396 := eq_true p396; replace q396 := eq_true q396; have p397 : 0 ≤ ((rd x9_1 (ji26)) : Int) := of_decide_eq_true (by assumption); have q397 : (rd x9_1 (ji26)) < ((rd_L5 t370 (rd x8_1 (ji26))).length : Int) := of_decide_eq_true (by assumption); obtain ⟨ad397, e397, hx397_0⟩ := Kd.at_int (by repeat (first | (with_reducible exact HR396_0.out) | (with_reducible refine Kd.C_alloc ?_ _) | (with_reducible refine Kd.C_drewN ?_ _) | (with_reducible refine Kd.C_drew ?_) | exact HR396_0.out)) (rd x9_1 (ji26)) p397 q397; cases e397; replace p397 := eq_true p397; replace q397 := eq_true q397; have p398 : 0 ≤ ((rd (rd_L5 t370 (rd x8_1 (ji26))) (rd x9_1 (ji26))) : Int) := of_decide_eq_true (by assumption); have q398 : (rd (rd_L5 t370 (rd x8_1 (ji26))) (rd x9_1 (ji26))) < (x7_1.length : Int) := of_decide_eq_true (by assumption); obtain ⟨ad398, e398, hx398_0⟩ := Kd.at_bool (Kd.R_reads' HO_7.out).2.2 (rd (rd_L5 t370 (rd x8_1 (ji26))) (rd x9_1 (ji26))) p398 q398; (try rw [← Nbq47.out] at hx398_0); obtain rfl : (⟨go10, 0, none⟩ : Addr) = ad398 := (by injection e398); (first | simp only [add_plain] at hx398_0 | simp only [add_at] at hx398_0 | simp only [Addr.add, Nat.zero_add] at hx398_0 | skip); replace p398 := eq_true p398; replace q398 := eq_true q398)); try go_wp2_with (first | ((with_reducible refine gate_store (t := 3) (p := 65) rfl ?_); (try (rw [drewN_self wr]; generalize hq_ : World.drewN wr _ = wr; have n0_ := aM_ (Kd.R_at hq_ HO_5.out); have n1_ := aM_ (Kd.S_at hq_ HO_6.out); have n2_ := aM_ (Kd.R_at hq_ HO_7.out); have n3_ := aM_ (Kd.R_at hq_ HO_8.out); have n4_ := aM_ (Kd.R_at hq_ HO_9.out); have n5_ := aM_ (Kd.R_at hq_ HL385_0.out); have n6_ := aM_ (blk_at hq_ BK368.out); have n7_ := aM_ (below_at hq_ HB.out); clear hq_ HO_5 HO_6 HO_7 HO_8 HO_9 HL385_0 BK368 HB; have HO_5 := n0_; have HO_6 := n1_; have HO_7 := n2_; have HO_8 := n3_; have HO_9 := n4_; have HL385_0 := n5_; have BK368 := n6_; have HB := n7_; clear n0_ n1_ n2_ n3_ n4_ n5_ n6_ n7_; (try (obtain ⟨hy52_, hz52_⟩ := Kd.R_celln 0 HO_9.out ((ji26) : Int) (of_decide_eq_true (by assumption)) (of_decide_eq_true (by assumption)))); (try (have HP52 := Kd.R_putg HO_9.out ((ji26) : Int) (wrap64 ((rd x9_1 (ji26)) + 1)))))); refine store_event (t := 3) (p := 65) (v := ?vo_w53) (w1 := (wr.setCell ⟨go42, ((ji26) : Int).toNat, none⟩ (.int .i64 (wrap64 ((rd x9_1 (ji26)) + 1))))) ?hg ?ho ?hn ?hr ?_; (case ho => rfl); (case hg => rfl); (case hn => rfl); (case hr => first | (go_simp; done) | (go_simp; rfl)); intro w53 hw; have hg : wr.grownBy w53 (some go42) := (by rw [hw]; exact HP52.2); have hp_ : Kd.R (Kd.int .i64) 3 w53 w.heap.size (fun k_ => some k_ ≠ (u5 : Value).ownBlock ∧ some k_ ≠ (.slice (some ad383) x8_1.length co49 : Value).ownBlock) (.slice (some ⟨go42, 0, none⟩) x9_1.length co50) y395 := (by rw [hw, Ny395.out]; exact HP52.1); clear HP52; have n0_ := aM_ (Kd.R_after (v := (.slice (some ⟨go42, 0, none⟩) x9_1.length co50)) (v1 := (.slice (some ⟨go42, 0, none⟩) x9_1.length co50)) (ok := (fun k_ => some k_ ≠ (.slice (some ad383) x8_1.length co49 : Value).ownBlock)) (by (with_reducible repeat (first | apply rA_ | apply rB_ | apply rC_)); exact HO_5.out) hg (.inl rfl)); have n1_ := aM_ (Kd.S_after (v := (.slice (some ⟨go42, 0, none⟩) x9_1.length co50)) (v1 := (.slice (some ⟨go42, 0, none⟩) x9_1.length co50)) (ok := (fun k_ => some k_ ≠ (u5 : Value).ownBlock ∧ some k_ ≠ (.slice (some ad383) x8_1.length co49 : Value).ownBlock)) (by (with_reducible repeat (first | apply Kd.S_alloc | apply Kd.S_drewN | apply Kd.S_drew)); exact Kd.S_mono HO_6.out (fun _ hk => ⟨⟨hk.1, hk.2.1⟩, hk.2.2⟩)) hg (.inl rfl)); have n2_ := aM_ (Kd.R_over' (v := (.slice (some ⟨go42, 0, none⟩) x9_1.length co50)) (by (with_reducible repeat (first | apply rA_ | apply rB_ | apply rC_)); exact HO_7.out) (Kd.R_typed HO_9.out) (by decide) hg); have n3_ := aM_ (Kd.R_after (v := (.slice (some ⟨go42, 0, none⟩) x9_1.length co50)) (v1 := (.slice (some ⟨go42, 0, none⟩) x9_1.length co50)) (ok := (fun k_ => some k_ ≠ (u5 : Value).ownBlock)) (by (with_reducible repeat (first | apply rA_ | apply rB_ | apply rC_)); exact HO_8.out) hg (.inl rfl)); have n4_ := aM_ (hp_); have n5_ := aM_ (blk_grown (g := gb368) (o := .cells #[.int .i64 a0_0, .slice A0_1 l0_1.length c0_1] 24 (0, 0)) (by (with_reducible repeat (first | refine blk_drewN ?_ _ | refine blk_drew ?_ | refine blk_alloc ?_ _)); exact BK368.out) hg (Kd.R_ne HO_9.out BK368.out (by decide))); have n6_ := aM_ (Kd.R_after (v := (.slice (some ⟨go42, 0, none⟩) x9_1.length co50)) (v1 := (.slice (some ⟨go42, 0, none⟩) x9_1.length co50)) (ok := (fun k_ => some k_ ≠ (u5 : Value).ownBlock ∧ some k_ ≠ (.slice (some ad385) t370.length co51 : Value).ownBlock ∧ some k_ ≠ (.slice (some ad383) x8_1.length co49 : Value).ownBlock)) (by (with_reducible repeat (first | apply rA_ | apply rB_ | apply rC_)); exact Kd.R_mono HL385_0.out (fun _ hk => ⟨⟨hk.1.1, ⟨hk.2, hk.1.2.1⟩⟩, hk.1.2.2⟩)) hg (.inl rfl)); have n7_ := aM_ ((by rw [hw]; exact below_set (HB.out) GB42.out : Below w.heap.size w w53)); clear HO_5; clear HO_6; clear HO_7; clear HO_8; clear HO_9; clear BK368; clear HL385_0; clear HB; have HO_5 := n0_; have HO_6 := n1_; have HO_7 := n2_; have HO_8 := n3_; have HO_9 := n4_; have BK368 := n5_; have HL385_0 := n6_; have HB := n7_; clear n0_ n1_ n2_ n3_ n4_ n5_ n6_ n7_; clear hg hw hp_; have p396 : 0 ≤ ((rd x8_1 (ji26)) : Int) := of_decide_eq_true (by assumption); have q396 : (rd x8_1 (ji26)) < (t370.length : Int) := of_decide_eq_true (by assumption); obtain ⟨ad396, A396_0, c396_0, e396, hx396_0, hl396_0, hi396_0⟩ := at_L5 (Kd.S_reads' HO_6.out).2.2 (rd x8_1 (ji26)) p396 q396; obtain rfl : ad385 = ad396 := (by injection e396); obtain ⟨ce396, hce396, hMe396, hcc396⟩ := Kd.S_get HO_6.out [] (rd x8_1 (ji26)) p396 (by first | exact q396 | exact of_decide_eq_true (by assumption) | (have e_ := (Kd.S_reads' HO_6.out).1; omega)); obtain ⟨ve396_0, rfl, ge396_0⟩ := hMe396; have hv396_0 := hcc396 0 _ rfl; rw [Nat.add_zero, show ((Kd.slice 3 (Kd.int .i64))).sz = 1 from rfl, Nat.mul_one] at hv396_0; replace hv396_0 := Option.some.inj (hv396_0.symm.trans hx396_0); rw [hv396_0] at ge396_0; have HL396_0 := aM_ (show Kd.R (Kd.int .i64) 3 _ _ _ _ (rd_L5 t370 (rd x8_1 (ji26))) from ge396_0); clear hv396_0 ge396_0; clear hcc396 hce396; have HR396_0 := aM_ hi396_0; have HC396_0 := aM_ hl396_0; clear hi396_0 hl396_0; replace p396 := eq_true p396; replace q396 := eq_true q396; have p397 : 0 ≤ ((rd x9_1 (ji26)) : Int) := of_decide_eq_true (by assumption); have q397 : (rd x9_1 (ji26)) < ((rd_L5 t370 (rd x8_1 (ji26))).length : Int) := of_decide_eq_true (by assumption); obtain ⟨ad397, e397, hx397_0⟩ := Kd.at_int (by repeat (first | (with_reducible exact HR396_0.out) | (with_reducible refine Kd.C_alloc ?_ _) | (with_reducible refine Kd.C_drewN ?_ _) | (with_reducible refine Kd.C_drew ?_) | exact HR396_0.out)) (rd x9_1 (ji26)) p397 q397; cases e397; replace p397 := eq_true p397; replace q397 := eq_true q397; have p398 : 0 ≤ ((rd (rd_L5 t370 (rd x8_1 (ji26))) (rd x9_1 (ji26))) : Int) := of_decide_eq_true (by assumption); have q398 : (rd (rd_L5 t370 (rd x8_1 (ji26))) (rd x9_1 (ji26))) < (x7_1.length : Int) := of_decide_eq_true (by assumption); obtain ⟨ad398, e398, hx398_0⟩ := Kd.at_bool (Kd.R_reads' HO_7.out).2.2 (rd (rd_L5 t370 (rd x8_1 (ji26))) (rd x9_1 (ji26))) p398 q398; (try rw [← Nbq47.out] at hx398_0); obtain rfl : (⟨go10, 0, none⟩ : Addr) = ad398 := (by injection e398); (first | simp only [add_plain] at hx398_0 | simp only [add_at] at hx398_0 | simp only [Addr.add, Nat.zero_add] at hx398_0 | skip); replace p398 := eq_true p398; replace q398 := eq_true q398)))
                    (try simp only [← hl7_1])
                    go_roundg k1
                    case measure => have := HK1.out; omega
                    case rel => exact ⟨(x5_1), (x7_1), (x8_1), (y395), H', ⟨by have := HK1.out; omega⟩, ⟨by (try simp only [hl7_1]); (with_reducible repeat (first | apply rA_ | apply rB_ | apply rC_)); exact HO_5.out⟩, ⟨by (try simp only [hl7_1]); (with_reducible repeat (first | apply Kd.S_alloc | apply Kd.S_drewN | apply Kd.S_drew)); exact Kd.S_mono HO_6.out (fun _ hk => ⟨hk.1.1, ⟨hk.1.2, hk.2⟩⟩)⟩, ⟨by (try simp only [hl7_1]); (with_reducible repeat (first | apply rA_ | apply rB_ | apply rC_)); exact HO_7.out⟩, ⟨by (try simp only [hl7_1]); (with_reducible repeat (first | apply rA_ | apply rB_ | apply rC_)); exact HO_8.out⟩, ⟨by (try simp only [hl7_1]); (with_reducible repeat (first | apply rA_ | apply rB_ | apply rC_)); exact HO_9.out⟩, ⟨by (try simp only [hl7_1]); (with_reducible repeat (first | refine blk_drewN ?_ _ | refine blk_drew ?_ | refine blk_alloc ?_ _)); exact BK368.out⟩, ⟨by repeat (first | (with_reducible first | exact HB.out | apply bA_ | apply bB_ | apply bC_ | refine below_set ?_ GE368.out) | exact HB.out)⟩⟩
                   ·replace c48 := Bool.eq_false_iff.mpr c48
                    subst c48
                    have H1 : (if x8_1.length < 17592186044416 then (if y395.length < 17592186044416 then (r4_Postorder.l0 k1 x5_1 t370 (x7_1.set ((rd (rd_L5 t370 (rd x8_1 (ji26))) (rd x9_1 (ji26))) : Int).toNat true) (x8_1 ++ [rd (rd_L5 t370 (rd x8_1 (ji26))) (rd x9_1 (ji26))]) (y395 ++ [0])) else (none)) else (none)) = some r := by rw [if_neg (show ¬ (false = true) by decide)] at H; exact H
                    clear H
                    have H := H1
                    clear H1
                    obtain ⟨y399, hy399⟩ : ∃ y_ : List Bool, y_ = (x7_1.set ((rd (rd_L5 t370 (rd x8_1 (ji26))) (rd x9_1 (ji26))) : Int).toNat true) := ⟨_, rfl⟩
                    replace H : (if x8_1.length < 17592186044416 then (if y395.length < 17592186044416 then (r4_Postorder.l0 k1 x5_1 t370 y399 (x8_1 ++ [rd (rd_L5 t370 (rd x8_1 (ji26))) (rd x9_1 (ji26))]) (y395 ++ [0])) else (none)) else (none)) = some r := by first | (rw [hy399]; with_reducible exact H) | (have H2_ := (Option.bind_some _ _).symm.trans H; rw [hy399]; with_reducible exact H2_) | (have H2_ := (Option.bind_some _ _).symm.trans H; with_reducible exact H2_) | with_reducible exact H | (rw [hy399]; exact H) | exact H
                    have Ny399 := aM_ hy399
                    clear hy399
                    by_cases c55 : x8_1.length < 17592186044416
                    ·rw [if_pos c55] at H
                     have LMc55 := aM_ c55
                     clear c55
                     obtain ⟨y400, hy400⟩ : ∃ y_ : List Int, y_ = (x8_1 ++ [rd (rd_L5 t370 (rd x8_1 (ji26))) (rd x9_1 (ji26))]) := ⟨_, rfl⟩
                     replace H : (if y395.length < 17592186044416 then (r4_Postorder.l0 k1 x5_1 t370 y399 y400 (y395 ++ [0])) else (none)) = some r := by first | (rw [hy400]; with_reducible exact H) | (have H2_ := (Option.bind_some _ _).symm.trans H; rw [hy400]; with_reducible exact H2_) | (have H2_ := (Option.bind_some _ _).symm.trans H; with_reducible exact H2_) | with_reducible exact H | (rw [hy400]; exact H) | exact H
                     have Ny400 := aM_ hy400
                     clear hy400
                     by_cases c56 : y395.length < 17592186044416
                     ·rw [if_pos c56] at H
                      have LMc56 := aM_ c56
                      clear c56
                      obtain ⟨y403, hy403⟩ : ∃ y_ : List Int, y_ = (y395 ++ [0]) := ⟨_, rfl⟩
                      replace H : (r4_Postorder.l0 k1 x5_1 t370 y399 y400 y403) = some r := by first | (rw [hy403]; with_reducible exact H) | (have H2_ := (Option.bind_some _ _).symm.trans H; rw [hy403]; with_reducible exact H2_) | (have H2_ := (Option.bind_some _ _).symm.trans H; with_reducible exact H2_) | with_reducible exact H | (rw [hy403]; exact H) | exact H
                      have Ny403 := aM_ hy403
                      clear hy403
                      have H' := aM_ H
                      clear H
                      obtain ⟨Ao57, co57, eo57⟩ := Kd.R_slice HO_8.out
                      subst eo57
                      have p383 : 0 ≤ ((ji26) : Int) := of_decide_eq_true (by assumption)
                      have q383 : (ji26) < (x8_1.length : Int) := of_decide_eq_true (by assumption)
                      obtain ⟨ad383, e383, hx383_0⟩ := Kd.at_int (Kd.R_reads' HO_8.out).2.2 (ji26) p383 q383
                      cases e383
                      replace p383 := eq_true p383
                      replace q383 := eq_true q383
                      obtain ⟨Ao58, co58, eo58⟩ := Kd.R_slice HO_9.out
                      subst eo58
                      have p384 : 0 ≤ ((ji26) : Int) := of_decide_eq_true (by assumption)
                      have q384 : (ji26) < (x9_1.length : Int) := of_decide_eq_true (by assumption)
                      obtain ⟨ad384, e384, hx384_0⟩ := Kd.at_int (Kd.R_reads' HO_9.out).2.2 (ji26) p384 q384
                      cases e384
                      replace p384 := eq_true p384
                      replace q384 := eq_true q384
                      obtain ⟨Ao59, co59, eo59⟩ := Kd.S_slice HO_6.out
                      subst eo59
                      have p385 : 0 ≤ ((rd x8_1 (ji26)) : Int) := of_decide_eq_true (by assumption)
                      have q385 : (rd x8_1 (ji26)) < (t370.length : Int) := of_decide_eq_true (by assumption)
                      obtain ⟨ad385, A385_0, c385_0, e385, hx385_0, hl385_0, hi385_0⟩ := at_L5 (Kd.S_reads' HO_6.out).2.2 (rd x8_1 (ji26)) p385 q385
                      cases e385
                      obtain ⟨ce385, hce385, hMe385, hcc385⟩ := Kd.S_get HO_6.out [] (rd x8_1 (ji26)) p385 (by first | exact q385 | exact of_decide_eq_true (by assumption) | (have e_ := (Kd.S_reads' HO_6.out).1; omega))
                      obtain ⟨ve385_0, rfl, ge385_0⟩ := hMe385
                      have hv385_0 := hcc385 0 _ rfl
                      rw [Nat.add_zero, show ((Kd.slice 3 (Kd.int .i64))).sz = 1 from rfl, Nat.mul_one] at hv385_0
                      replace hv385_0 := Option.some.inj (hv385_0.symm.trans hx385_0)
                      rw [hv385_0] at ge385_0
                      have HL385_0 := aM_ (show Kd.R (Kd.int .i64) 3 _ _ _ _ (rd_L5 t370 (rd x8_1 (ji26))) from ge385_0)
                      clear hv385_0 ge385_0
                      clear hcc385 hce385
                      have HR385_0 := aM_ hi385_0
                      have HC385_0 := aM_ hl385_0
                      clear hi385_0 hl385_0
                      replace p385 := eq_true p385
                      replace q385 := eq_true q385
                      have p42 : 0 ≤ ((ji26) : Int) := of_decide_eq_true (by assumption)
                      have q42 : ((ji26) : Int) < ((x9_1.length : Int) : Int) := of_decide_eq_true (by assumption)
                      obtain ⟨go42, co42, eo42, gb42, gl42, cl42, HG42⟩ := Kd.R_form HO_9.out (by omega)
                      (first | cases eo42 | (injection eo42 with ea_ en_ ec_; (first | subst ea_ | (injection ea_ with ea_; subst ea_)); subst ec_; clear en_))
                      have GB42 := aM_ gb42
                      have GG42 := aM_ HG42
                      clear gb42 gl42 HG42
                      (first | simp only [add_plain] at hx384_0 | skip)
                      obtain ⟨hx42_0, hf42_0⟩ := Kd.R_celln 0 HO_9.out ((ji26) : Int) p42 q42
                      replace p42 := eq_true p42
                      replace q42 := eq_true q42
                      obtain ⟨hy60_, hz60_⟩ := Kd.R_celln 0 HO_9.out ((ji26) : Int) (of_decide_eq_true (by assumption)) (of_decide_eq_true (by assumption))
                      have HP60 := Kd.R_putg HO_9.out ((ji26) : Int) (wrap64 ((rd x9_1 (ji26)) + 1))
                      go_wp2_with (first | ((with_reducible refine gate_store (t := 3) (p := 65) rfl ?_); (try (rw [drewN_self wr]; generalize hq_ : World.drewN wr _ = wr; have n0_ := aM_ (Kd.R_at hq_ HO_5.out); have n1_ := aM_ (Kd.S_at hq_ HO_6.out); have n2_ := aM_ (Kd.R_at hq_ HO_7.out); have n3_ := aM_ (Kd.R_at hq_ HO_8.out); have n4_ := aM_ (Kd.R_at hq_ HO_9.out); have n5_ := aM_ (Kd.R_at hq_ HL385_0.out); have n6_ := aM_ (blk_at hq_ BK368.out); have n7_ := aM_ (below_at hq_ HB.out); clear hq_ HO_5 HO_6 HO_7 HO_8 HO_9 HL385_0 BK368 HB; have HO_5 := n0_; have HO_6 := n1_; have HO_7 := n2_; have HO_8 := n3_; have HO_9 := n4_; have HL385_0 := n5_; have BK368 := n6_; have HB := n7_; clear n0_ n1_ n2_ n3_ n4_ n5_ n6_ n7_; (try (obtain ⟨hy60_, hz60_⟩ := Kd.R_celln 0 HO_9.out ((ji26) : Int) (of_decide_eq_true (by assumption)) (of_decide_eq_true (by assumption)))); (try (have HP60 := Kd.R_putg HO_9.out ((ji26) : Int) (wrap64 ((rd x9_1 (ji26)) + 1)))))); refine store_event (t := 3) (p := 65) (v := ?vo_w61) (w1 := (wr.setCell ⟨go42, ((ji26) : Int).toNat, none⟩ (.int .i64 (wrap64 ((rd x9_1 (ji26)) + 1))))) ?hg ?ho ?hn ?hr ?_; (case ho => rfl); (case hg => rfl); (case hn => rfl); (case hr => first | (go_simp; done) | (go_simp; rfl)); intro w61 hw; have hg : wr.grownBy w61 (some go42) := (by rw [hw]; exact HP60.2); have hp_ : Kd.R (Kd.int .i64) 3 w61 w.heap.size (fun k_ => some k_ ≠ (u5 : Value).ownBlock ∧ some k_ ≠ (.slice (some ad383) x8_1.length co57 : Value).ownBlock) (.slice (some ⟨go42, 0, none⟩) x9_1.length co58) y395 := (by rw [hw, Ny395.out]; exact HP60.1); clear HP60; have n0_ := aM_ (Kd.R_after (v := (.slice (some ⟨go42, 0, none⟩) x9_1.length co58)) (v1 := (.slice (some ⟨go42, 0, none⟩) x9_1.length co58)) (ok := (fun k_ => some k_ ≠ (.slice (some ad383) x8_1.length co57 : Value).ownBlock)) (by (with_reducible repeat (first | apply rA_ | apply rB_ | apply rC_)); exact HO_5.out) hg (.inl rfl)); have n1_ := aM_ (Kd.S_after (v := (.slice (some ⟨go42, 0, none⟩) x9_1.length co58)) (v1 := (.slice (some ⟨go42, 0, none⟩) x9_1.length co58)) (ok := (fun k_ => some k_ ≠ (u5 : Value).ownBlock ∧ some k_ ≠ (.slice (some ad383) x8_1.length co57 : Value).ownBlock)) (by (with_reducible repeat (first | apply Kd.S_alloc | apply Kd.S_drewN | apply Kd.S_drew)); exact Kd.S_mono HO_6.out (fun _ hk => ⟨⟨hk.1, hk.2.1⟩, hk.2.2⟩)) hg (.inl rfl)); have n2_ := aM_ (Kd.R_over' (v := (.slice (some ⟨go42, 0, none⟩) x9_1.length co58)) (by (with_reducible repeat (first | apply rA_ | apply rB_ | apply rC_)); exact HO_7.out) (Kd.R_typed HO_9.out) (by decide) hg); have n3_ := aM_ (Kd.R_after (v := (.slice (some ⟨go42, 0, none⟩) x9_1.length co58)) (v1 := (.slice (some ⟨go42, 0, none⟩) x9_1.length co58)) (ok := (fun k_ => some k_ ≠ (u5 : Value).ownBlock)) (by (with_reducible repeat (first | apply rA_ | apply rB_ | apply rC_)); exact HO_8.out) hg (.inl rfl)); have n4_ := aM_ (hp_); have n5_ := aM_ (blk_grown (g := gb368) (o := .cells #[.int .i64 a0_0, .slice A0_1 l0_1.length c0_1] 24 (0, 0)) (by (with_reducible repeat (first | refine blk_drewN ?_ _ | refine blk_drew ?_ | refine blk_alloc ?_ _)); exact BK368.out) hg (Kd.R_ne HO_9.out BK368.out (by decide))); have n6_ := aM_ (Kd.R_after (v := (.slice (some ⟨go42, 0, none⟩) x9_1.length co58)) (v1 := (.slice (some ⟨go42, 0, none⟩) x9_1.length co58)) (ok := (fun k_ => some k_ ≠ (u5 : Value).ownBlock ∧ some k_ ≠ (.slice (some ad385) t370.length co59 : Value).ownBlock ∧ some k_ ≠ (.slice (some ad383) x8_1.length co57 : Value).ownBlock)) (by (with_reducible repeat (first | apply rA_ | apply rB_ | apply rC_)); exact Kd.R_mono HL385_0.out (fun _ hk => ⟨⟨hk.1.1, ⟨hk.2, hk.1.2.1⟩⟩, hk.1.2.2⟩)) hg (.inl rfl)); have n7_ := aM_ ((by rw [hw]; exact below_set (HB.out) GB42.out : Below w.heap.size w w61)); clear HO_5; clear HO_6; clear HO_7; clear HO_8; clear HO_9; clear BK368; clear HL385_0; clear HB; have HO_5 := n0_; have HO_6 := n1_; have HO_7 := n2_; have HO_8 := n3_; have HO_9 := n4_; have BK368 := n5_; have HL385_0 := n6_; have HB := n7_; clear n0_ n1_ n2_ n3_ n4_ n5_ n6_ n7_; clear hg hw hp_; have p396 : 0 ≤ ((rd x8_1 (ji26)) : Int) := of_decide_eq_true (by assumption); have q396 : (rd x8_1 (ji26)) < (t370.length : Int) := of_decide_eq_true (by assumption); obtain ⟨ad396, A396_0, c396_0, e396, hx396_0, hl396_0, hi396_0⟩ := at_L5 (Kd.S_reads' HO_6.out).2.2 (rd x8_1 (ji26)) p396 q396; obtain rfl : ad385 = ad396 := (by injection e396); obtain ⟨ce396, hce396, hMe396, hcc396⟩ := Kd.S_get HO_6.out [] (rd x8_1 (ji26)) p396 (by first | exact q396 | exact of_decide_eq_true (by assumption) | (have e_ := (Kd.S_reads' HO_6.out).1; omega)); obtain ⟨ve396_0, rfl, ge396_0⟩ := hMe396; have hv396_0 := hcc396 0 _ rfl; rw [Nat.add_zero, show ((Kd.slice 3 (Kd.int .i64))).sz = 1 from rfl, Nat.mul_one] at hv396_0; replace hv396_0 := Option.some.inj (hv396_0.symm.trans hx396_0); rw [hv396_0] at ge396_0; have HL396_0 := aM_ (show Kd.R (Kd.int .i64) 3 _ _ _ _ (rd_L5 t370 (rd x8_1 (ji26))) from ge396_0); clear hv396_0 ge396_0; clear hcc396 hce396; have HR396_0 := aM_ hi396_0; have HC396_0 := aM_ hl396_0; clear hi396_0 hl396_0; replace p396 := eq_true p396; replace q396 := eq_true q396; have p397 : 0 ≤ ((rd x9_1 (ji26)) : Int) := of_decide_eq_true (by assumption); have q397 : (rd x9_1 (ji26)) < ((rd_L5 t370 (rd x8_1 (ji26))).length : Int) := of_decide_eq_true (by assumption); obtain ⟨ad397, e397, hx397_0⟩ := Kd.at_int (by repeat (first | (with_reducible exact HR396_0.out) | (with_reducible refine Kd.C_alloc ?_ _) | (with_reducible refine Kd.C_drewN ?_ _) | (with_reducible refine Kd.C_drew ?_) | exact HR396_0.out)) (rd x9_1 (ji26)) p397 q397; cases e397; replace p397 := eq_true p397; replace q397 := eq_true q397; have p398 : 0 ≤ ((rd (rd_L5 t370 (rd x8_1 (ji26))) (rd x9_1 (ji26))) : Int) := of_decide_eq_true (by assumption); have q398 : (rd (rd_L5 t370 (rd x8_1 (ji26))) (rd x9_1 (ji26))) < (x7_1.length : Int) := of_decide_eq_true (by assumption); obtain ⟨ad398, e398, hx398_0⟩ := Kd.at_bool (Kd.R_reads' HO_7.out).2.2 (rd (rd_L5 t370 (rd x8_1 (ji26))) (rd x9_1 (ji26))) p398 q398; (try rw [← Nbq47.out] at hx398_0); obtain rfl : (⟨go10, 0, none⟩ : Addr) = ad398 := (by injection e398); (first | simp only [add_plain] at hx398_0 | simp only [add_at] at hx398_0 | simp only [Addr.add, Nat.zero_add] at hx398_0 | skip); replace p398 := eq_true p398; replace q398 := eq_true q398; have p54 : 0 ≤ ((rd (rd_L5 t370 (rd x8_1 (ji26))) (rd x9_1 (ji26))) : Int) := of_decide_eq_true (by assumption); have q54 : ((rd (rd_L5 t370 (rd x8_1 (ji26))) (rd x9_1 (ji26))) : Int) < ((x7_1.length : Int) : Int) := of_decide_eq_true (by assumption); obtain ⟨hx54_0, hf54_0⟩ := Kd.R_celln false HO_7.out ((rd (rd_L5 t370 (rd x8_1 (ji26))) (rd x9_1 (ji26))) : Int) p54 q54; replace p54 := eq_true p54; replace q54 := eq_true q54; obtain ⟨hy62_, hz62_⟩ := Kd.R_celln false HO_7.out ((rd (rd_L5 t370 (rd x8_1 (ji26))) (rd x9_1 (ji26))) : Int) (of_decide_eq_true (by assumption)) (of_decide_eq_true (by assumption)); have HP62 := Kd.R_putg HO_7.out ((rd (rd_L5 t370 (rd x8_1 (ji26))) (rd x9_1 (ji26))) : Int) true) | ((with_reducible refine gate_store (t := 4) (p := 80) rfl ?_); (try (rw [drewN_self w61]; generalize hq_ : World.drewN w61 _ = w61; have n0_ := aM_ (Kd.R_at hq_ HO_5.out); have n1_ := aM_ (Kd.S_at hq_ HO_6.out); have n2_ := aM_ (Kd.R_at hq_ HO_7.out); have n3_ := aM_ (Kd.R_at hq_ HO_8.out); have n4_ := aM_ (Kd.R_at hq_ HO_9.out); have n5_ := aM_ (Kd.R_at hq_ HL385_0.out); have n6_ := aM_ (Kd.R_at hq_ HL396_0.out); have n7_ := aM_ (blk_at hq_ BK368.out); have n8_ := aM_ (below_at hq_ HB.out); clear hq_ HO_5 HO_6 HO_7 HO_8 HO_9 HL385_0 HL396_0 BK368 HB; have HO_5 := n0_; have HO_6 := n1_; have HO_7 := n2_; have HO_8 := n3_; have HO_9 := n4_; have HL385_0 := n5_; have HL396_0 := n6_; have BK368 := n7_; have HB := n8_; clear n0_ n1_ n2_ n3_ n4_ n5_ n6_ n7_ n8_; (try (obtain ⟨hy62_, hz62_⟩ := Kd.R_celln false HO_7.out ((rd (rd_L5 t370 (rd x8_1 (ji26))) (rd x9_1 (ji26))) : Int) (of_decide_eq_true (by assumption)) (of_decide_eq_true (by assumption)))); (try (have HP62 := Kd.R_putg HO_7.out ((rd (rd_L5 t370 (rd x8_1 (ji26))) (rd x9_1 (ji26))) : Int) true)))); refine store_event (t := 4) (p := 80) (v := ?vo_w63) (w1 := (w61.setCell ⟨go10, ((rd (rd_L5 t370 (rd x8_1 (ji26))) (rd x9_1 (ji26))) : Int).toNat, none⟩ (.bool true))) ?hg ?ho ?hn ?hr ?_; (case ho => rfl); (case hg => rfl); (case hn => rfl); (case hr => first | (go_simp; done) | (go_simp; rfl)); intro w63 hw; have hg : w61.grownBy w63 (some go10) := (by rw [hw]; exact HP62.2); have hp_ : Kd.R Kd.bool 4 w63 w.heap.size (fun _ => True) (.slice (some ⟨go10, 0, none⟩) x7_1.length co10) y399 := (by rw [hw, Ny399.out]; exact HP62.1); clear HP62; have n0_ := aM_ (Kd.R_over' (v := (.slice (some ⟨go10, 0, none⟩) x7_1.length co10)) (by (with_reducible repeat (first | apply rA_ | apply rB_ | apply rC_)); exact HO_5.out) (Kd.R_typed HO_7.out) (by decide) hg); have n1_ := aM_ (Kd.S_over' (v := (.slice (some ⟨go10, 0, none⟩) x7_1.length co10)) (by (with_reducible repeat (first | apply Kd.S_alloc | apply Kd.S_drewN | apply Kd.S_drew)); exact HO_6.out) (Kd.R_typed HO_7.out) (by decide) hg); have n2_ := aM_ (hp_); have n3_ := aM_ (Kd.R_over' (v := (.slice (some ⟨go10, 0, none⟩) x7_1.length co10)) (by (with_reducible repeat (first | apply rA_ | apply rB_ | apply rC_)); exact HO_8.out) (Kd.R_typed HO_7.out) (by decide) hg); have n4_ := aM_ (Kd.R_over' (v := (.slice (some ⟨go10, 0, none⟩) x7_1.length co10)) (by (with_reducible repeat (first | apply rA_ | apply rB_ | apply rC_)); exact HO_9.out) (Kd.R_typed HO_7.out) (by decide) hg); have n5_ := aM_ (blk_grown (g := gb368) (o := .cells #[.int .i64 a0_0, .slice A0_1 l0_1.length c0_1] 24 (0, 0)) (by (with_reducible repeat (first | refine blk_drewN ?_ _ | refine blk_drew ?_ | refine blk_alloc ?_ _)); exact BK368.out) hg (Kd.R_ne HO_7.out BK368.out (by decide))); have n6_ := aM_ (Kd.R_over' (v := (.slice (some ⟨go10, 0, none⟩) x7_1.length co10)) (by (with_reducible repeat (first | apply rA_ | apply rB_ | apply rC_)); exact HL385_0.out) (Kd.R_typed HO_7.out) (by decide) hg); have n7_ := aM_ (Kd.R_over' (v := (.slice (some ⟨go10, 0, none⟩) x7_1.length co10)) (by (with_reducible repeat (first | apply rA_ | apply rB_ | apply rC_)); exact HL396_0.out) (Kd.R_typed HO_7.out) (by decide) hg); have n8_ := aM_ ((by rw [hw]; exact below_set (HB.out) GB10.out : Below w.heap.size w w63)); clear HO_5; clear HO_6; clear HO_7; clear HO_8; clear HO_9; clear BK368; clear HL385_0; clear HL396_0; clear HB; have HO_5 := n0_; have HO_6 := n1_; have HO_7 := n2_; have HO_8 := n3_; have HO_9 := n4_; have BK368 := n5_; have HL385_0 := n6_; have HL396_0 := n7_; have HB := n8_; clear n0_ n1_ n2_ n3_ n4_ n5_ n6_ n7_ n8_; clear hg hw hp_) | ((with_reducible refine gate_builtin (b := .append) (xs := #[.tmp 81, .tmp 83]) rfl ?_); at_builtin; refine Kd.R_append (Kd.int .i64) (w0 := w) w.heap.size rfl (.tmp 81) (.tmp 83) 31 3 (.int .i64 0) 8 rfl Tryd.underlying31 info3 rfl (by decide) (by omega) (.slice (some ad383) x8_1.length co57) x8_1 (rd (rd_L5 t370 (rd x8_1 (ji26))) (rd x9_1 (ji26))) [.int .i64 (rd (rd_L5 t370 (rd x8_1 (ji26))) (rd x9_1 (ji26)))] (fun k_ => some k_ ≠ (u5 : Value).ownBlock ∧ some k_ ≠ (.slice (some ⟨go42, 0, none⟩) x9_1.length co58 : Value).ownBlock) (fun _ => False) rfl rfl ?aP (fun _ hk => hk.elim) ?aF ?aO ?aB ?aS ?aL ?_; (case aP => exact rfl); (case aB => exact (by repeat (first | (with_reducible first | exact HB.out | apply bA_ | apply bB_ | apply bC_ | refine below_set ?_ GE368.out) | exact HB.out))); (case aF => exact (fun k_ hk => ⟨Kd.fresh' (Kd.R_lt (by (with_reducible repeat (first | apply rA_ | apply rB_ | apply rC_)); exact HO_5.out)) k_ hk, Kd.fresh' (Kd.R_lt (by (with_reducible repeat (first | apply rA_ | apply rB_ | apply rC_)); exact HO_9.out)) k_ hk⟩)); (case aO => exact (by (with_reducible repeat (first | apply rA_ | apply rB_ | apply rC_)); exact HO_8.out)); (case aS => exact (below_size (by repeat (first | (with_reducible first | exact HB.out | apply bA_ | apply bB_ | apply bC_ | refine below_set ?_ GE368.out) | exact HB.out)))); (case aL => have := LMc55.out; omega); intro v401 w64 ho hb hg hat; rw [← Ny400.out] at ho; have n0_ := aM_ (Kd.R_after (ok := (fun k_ => some k_ ≠ (.slice (some ⟨go42, 0, none⟩) x9_1.length co58 : Value).ownBlock)) (by (with_reducible repeat (first | apply rA_ | apply rB_ | apply rC_)); exact Kd.R_mono HO_5.out (fun _ hk => ⟨hk.2, hk.1⟩)) hg hat); have n1_ := aM_ (Kd.S_after (ok := (fun k_ => some k_ ≠ (u5 : Value).ownBlock ∧ some k_ ≠ (.slice (some ⟨go42, 0, none⟩) x9_1.length co58 : Value).ownBlock)) (by (with_reducible repeat (first | apply Kd.S_alloc | apply Kd.S_drewN | apply Kd.S_drew)); exact Kd.S_mono HO_6.out (fun _ hk => ⟨⟨hk.1.1, hk.2⟩, hk.1.2⟩)) hg hat); have n2_ := aM_ (Kd.R_over' (by (with_reducible repeat (first | apply rA_ | apply rB_ | apply rC_)); exact HO_7.out) (Kd.R_typed (by (with_reducible repeat (first | apply rA_ | apply rB_ | apply rC_)); exact HO_8.out)) (by decide) hg); have n3_ := aM_ (Kd.R_after (ok := (fun k_ => some k_ ≠ (u5 : Value).ownBlock)) (by (with_reducible repeat (first | apply rA_ | apply rB_ | apply rC_)); exact HO_9.out) hg hat); have n4_ := aM_ (blk_grown (g := gb368) (o := .cells #[.int .i64 a0_0, .slice A0_1 l0_1.length c0_1] 24 (0, 0)) (by (with_reducible repeat (first | refine blk_drewN ?_ _ | refine blk_drew ?_ | refine blk_alloc ?_ _)); exact BK368.out) hg (Kd.R_ne HO_8.out BK368.out (by decide))); have n5_ := aM_ (Kd.R_after (ok := (fun k_ => some k_ ≠ (u5 : Value).ownBlock ∧ some k_ ≠ (.slice (some ad385) t370.length co59 : Value).ownBlock ∧ some k_ ≠ (.slice (some ⟨go42, 0, none⟩) x9_1.length co58 : Value).ownBlock)) (by (with_reducible repeat (first | apply rA_ | apply rB_ | apply rC_)); exact Kd.R_mono HL385_0.out (fun _ hk => ⟨⟨hk.1.1, ⟨hk.1.2.1, hk.2⟩⟩, hk.1.2.2⟩)) hg hat); have n6_ := aM_ (Kd.R_after (ok := (fun k_ => some k_ ≠ (u5 : Value).ownBlock ∧ some k_ ≠ (.slice (some ad385) t370.length co59 : Value).ownBlock ∧ some k_ ≠ (.slice (some ⟨go42, 0, none⟩) x9_1.length co58 : Value).ownBlock)) (by (with_reducible repeat (first | apply rA_ | apply rB_ | apply rC_)); exact Kd.R_mono HL396_0.out (fun _ hk => ⟨⟨hk.1.1.1, ⟨hk.2, hk.1.2⟩⟩, hk.1.1.2⟩)) hg hat); have n7_ := aM_ (hb); have n8_ := aM_ (ho); clear HO_5; clear HO_6; clear HO_7; clear HO_9; clear BK368; clear HL385_0; clear HL396_0; clear HB; clear HO_8; have HO_5 := n0_; have HO_6 := n1_; have HO_7 := n2_; have HO_9 := n3_; have BK368 := n4_; have HL385_0 := n5_; have HL396_0 := n6_; have HB := n7_; have HO402 := n8_; clear n0_ n1_ n2_ n3_ n4_ n5_ n6_ n7_ n8_; clear ho hb hg hat) | ((with_reducible refine gate_builtin (b := .append) (xs := #[.tmp 85, .tmp 86]) rfl ?_); at_builtin; refine Kd.R_append (Kd.int .i64) (w0 := w) w.heap.size rfl (.tmp 85) (.tmp 86) 31 3 (.int .i64 0) 8 rfl Tryd.underlying31 info3 rfl (by decide) (by omega) (.slice (some ⟨go42, 0, none⟩) x9_1.length co58) y395 0 [.int .i64 0] (fun k_ => some k_ ≠ (u5 : Value).ownBlock ∧ some k_ ≠ (v401 : Value).ownBlock) (fun _ => False) rfl rfl ?aP (fun _ hk => hk.elim) ?aF ?aO ?aB ?aS ?aL ?_; (case aP => exact rfl); (case aB => exact (by repeat (first | (with_reducible first | exact HB.out | apply bA_ | apply bB_ | apply bC_ | refine below_set ?_ GE368.out) | exact HB.out))); (case aF => exact (fun k_ hk => ⟨Kd.fresh' (Kd.R_lt (by (with_reducible repeat (first | apply rA_ | apply rB_ | apply rC_)); exact HO_5.out)) k_ hk, Kd.fresh' (Kd.R_lt (by (with_reducible repeat (first | apply rA_ | apply rB_ | apply rC_)); exact HO402.out)) k_ hk⟩)); (case aO => exact (by (with_reducible repeat (first | apply rA_ | apply rB_ | apply rC_)); exact HO_9.out)); (case aS => exact (below_size (by repeat (first | (with_reducible first | exact HB.out | apply bA_ | apply bB_ | apply bC_ | refine below_set ?_ GE368.out) | exact HB.out)))); (case aL => have := LMc56.out; omega); intro v404 w65 ho hb hg hat; rw [← Ny403.out] at ho; have n0_ := aM_ (Kd.R_after (ok := (fun k_ => some k_ ≠ (v401 : Value).ownBlock)) (by (with_reducible repeat (first | apply rA_ | apply rB_ | apply rC_)); exact Kd.R_mono HO_5.out (fun _ hk => ⟨hk.2, hk.1⟩)) hg hat); have n1_ := aM_ (Kd.S_after (ok := (fun k_ => some k_ ≠ (u5 : Value).ownBlock ∧ some k_ ≠ (v401 : Value).ownBlock)) (by (with_reducible repeat (first | apply Kd.S_alloc | apply Kd.S_drewN | apply Kd.S_drew)); exact Kd.S_mono HO_6.out (fun _ hk => ⟨⟨hk.1.1, hk.2⟩, hk.1.2⟩)) hg hat); have n2_ := aM_ (Kd.R_over' (by (with_reducible repeat (first | apply rA_ | apply rB_ | apply rC_)); exact HO_7.out) (Kd.R_typed (by (with_reducible repeat (first | apply rA_ | apply rB_ | apply rC_)); exact HO_9.out)) (by decide) hg); have n3_ := aM_ (blk_grown (g := gb368) (o := .cells #[.int .i64 a0_0, .slice A0_1 l0_1.length c0_1] 24 (0, 0)) (by (with_reducible repeat (first | refine blk_drewN ?_ _ | refine blk_drew ?_ | refine blk_alloc ?_ _)); exact BK368.out) hg (Kd.R_ne HO_9.out BK368.out (by decide))); have n4_ := aM_ (Kd.R_after (ok := (fun k_ => some k_ ≠ (u5 : Value).ownBlock ∧ some k_ ≠ (.slice (some ad385) t370.length co59 : Value).ownBlock ∧ some k_ ≠ (v401 : Value).ownBlock)) (by (with_reducible repeat (first | apply rA_ | apply rB_ | apply rC_)); exact Kd.R_mono HL385_0.out (fun _ hk => ⟨⟨hk.1.1, ⟨hk.1.2.1, hk.2⟩⟩, hk.1.2.2⟩)) hg hat); have n5_ := aM_ (Kd.R_after (ok := (fun k_ => some k_ ≠ (u5 : Value).ownBlock ∧ some k_ ≠ (.slice (some ad385) t370.length co59 : Value).ownBlock ∧ some k_ ≠ (v401 : Value).ownBlock)) (by (with_reducible repeat (first | apply rA_ | apply rB_ | apply rC_)); exact Kd.R_mono HL396_0.out (fun _ hk => ⟨⟨hk.1.1, ⟨hk.1.2.1, hk.2⟩⟩, hk.1.2.2⟩)) hg hat); have n6_ := aM_ (Kd.R_after (ok := (fun k_ => some k_ ≠ (u5 : Value).ownBlock)) (by (with_reducible repeat (first | apply rA_ | apply rB_ | apply rC_)); exact HO402.out) hg hat); have n7_ := aM_ (hb); have n8_ := aM_ (ho); clear HO_5; clear HO_6; clear HO_7; clear BK368; clear HL385_0; clear HL396_0; clear HO402; clear HB; clear HO_9; have HO_5 := n0_; have HO_6 := n1_; have HO_7 := n2_; have BK368 := n3_; have HL385_0 := n4_; have HL396_0 := n5_; have HO402 := n6_; have HB := n7_; have HO405 := n8_; clear n0_ n1_ n2_ n3_ n4_ n5_ n6_ n7_ n8_; clear ho hb hg hat))
                      repeat (go_quiet (first | ((with_reducible refine gate_store (t := 3) (p := 65) rfl ?_); (try (rw [drewN_self wr]; generalize hq_ : World.drewN wr _ = wr; have n0_ := aM_ (Kd.R_at hq_ HO_5.out); have n1_ := aM_ (Kd.S_at hq_ HO_6.out); have n2_ := aM_ (Kd.R_at hq_ HO_7.out); have n3_ := aM_ (Kd.R_at hq_ HO_8.out); have n4_ := aM_ (Kd.R_at hq_ HO_9.out); have n5_ := aM_ (Kd.R_at hq_ HL385_0.out); have n6_ := aM_ (blk_at hq_ BK368.out); have n7_ := aM_ (below_at hq_ HB.out); clear hq_ HO_5 HO_6 HO_7 HO_8 HO_9 HL385_0 BK368 HB; have HO_5 := n0_; have HO_6 := n1_; have HO_7 := n2_; have HO_8 := n3_; have HO_9 := n4_; have HL385_0 := n5_; have BK368 := n6_; have HB := n7_; clear n0_ n1_ n2_ n3_ n4_ n5_ n6_ n7_; (try (obtain ⟨hy60_, hz60_⟩ := Kd.R_celln 0 HO_9.out ((ji26) : Int) (of_decide_eq_true (by assumption)) (of_decide_eq_true (by assumption)))); (try (have HP60 := Kd.R_putg HO_9.out ((ji26) : Int) (wrap64 ((rd x9_1 (ji26)) + 1)))))); refine store_event (t := 3) (p := 65) (v := ?vo_w61) (w1 := (wr.setCell ⟨go42, ((ji26) : Int).toNat, none⟩ (.int .i64 (wrap64 ((rd x9_1 (ji26)) + 1))))) ?hg ?ho ?hn ?hr ?_; (case ho => rfl); (case hg => rfl); (case hn => rfl); (case hr => first | (go_simp; done) | (go_simp; rfl)); intro w61 hw; have hg : wr.grownBy w61 (some go42) := (by rw [hw]; exact HP60.2); have hp_ : Kd.R (Kd.int .i64) 3 w61 w.heap.size (fun k_ => some k_ ≠ (u5 : Value).ownBlock ∧ some k_ ≠ (.slice (some ad383) x8_1.length co57 : Value).ownBlock) (.slice (some ⟨go42, 0, none⟩) x9_1.length co58) y395 := (by rw [hw, Ny395.out]; exact HP60.1); clear HP60; have n0_ := aM_ (Kd.R_after (v := (.slice (some ⟨go42, 0, none⟩) x9_1.length co58)) (v1 := (.slice (some ⟨go42, 0, none⟩) x9_1.length co58)) (ok := (fun k_ => some k_ ≠ (.slice (some ad383) x8_1.length co57 : Value).ownBlock)) (by (with_reducible repeat (first | apply rA_ | apply rB_ | apply rC_)); exact HO_5.out) hg (.inl rfl)); have n1_ := aM_ (Kd.S_after (v := (.slice (some ⟨go42, 0, none⟩) x9_1.length co58)) (v1 := (.slice (some ⟨go42, 0, none⟩) x9_1.length co58)) (ok := (fun k_ => some k_ ≠ (u5 : Value).ownBlock ∧ some k_ ≠ (.slice (some ad383) x8_1.length co57 : Value).ownBlock)) (by (with_reducible repeat (first | apply Kd.S_alloc | apply Kd.S_drewN | apply Kd.S_drew)); exact Kd.S_mono HO_6.out (fun _ hk => ⟨⟨hk.1, hk.2.1⟩, hk.2.2⟩)) hg (.inl rfl)); have n2_ := aM_ (Kd.R_over' (v := (.slice (some ⟨go42, 0, none⟩) x9_1.length co58)) (by (with_reducible repeat (first | apply rA_ | apply rB_ | apply rC_)); exact HO_7.out) (Kd.R_typed HO_9.out) (by decide) hg); have n3_ := aM_ (Kd.R_after (v := (.slice (some ⟨go42, 0, none⟩) x9_1.length co58)) (v1 := (.slice (some ⟨go42, 0, none⟩) x9_1.length co58)) (ok := (fun k_ => some k_ ≠ (u5 : Value).ownBlock)) (by (with_reducible repeat (first | apply rA_ | apply rB_ | apply rC_)); exact HO_8.out) hg (.inl rfl)); have n4_ := aM_ (hp_); have n5_ := aM_ (blk_grown (g := gb368) (o := .cells #[.int .i64 a0_0, .slice A0_1 l0_1.length c0_1] 24 (0, 0)) (by (with_reducible repeat (first | refine blk_drewN ?_ _ | refine blk_drew ?_ | refine blk_alloc ?_ _)); exact BK368.out) hg (Kd.R_ne HO_9.out BK368.out (by decide))); have n6_ := aM_ (Kd.R_after (v := (.slice (some ⟨go42, 0, none⟩) x9_1.length co58)) (v1 := (.slice (some ⟨go42, 0, none⟩) x9_1.length co58)) (ok := (fun k_ => some k_ ≠ (u5 : Value).ownBlock ∧ some k_ ≠ (.slice (some ad385) t370.length co59 : Value).ownBlock ∧ some k_ ≠ (.slice (some ad383) x8_1.length co57 : Value).ownBlock)) (by (with_reducible repeat (first | apply rA_ | apply rB_ | apply rC_)); exact Kd.R_mono HL385_0.out (fun _ hk => ⟨⟨hk.1.1, ⟨hk.2, hk.1.2.1⟩⟩, hk.1.2.2⟩)) hg (.inl rfl)); have n7_ := aM_ ((by rw [hw]; exact below_set (HB.out) GB42.out : Below w.heap.size w w61)); clear HO_5; clear HO_6; clear HO_7; clear HO_8; clear HO_9; clear BK368; clear HL385_0; clear HB; have HO_5 := n0_; have HO_6 := n1_; have HO_7 := n2_; have HO_8 := n3_; have HO_9 := n4_; have BK368 := n5_; have HL385_0 := n6_; have HB := n7_; clear n0_ n1_ n2_ n3_ n4_ n5_ n6_ n7_; clear hg hw hp_; have p396 : 0 ≤ ((rd x8_1 (ji26)) : Int) := of_decide_eq_true (by assumption); have q396 : (rd x8_1 (ji26)) < (t370.length : Int) := of_decide_eq_true (by assumption); obtain ⟨ad396, A396_0, c396_0, e396, hx396_0, hl396_0, hi396_0⟩ := at_L5 (Kd.S_reads' HO_6.out).2.2 (rd x8_1 (ji26)) p396 q396; obtain rfl : ad385 = ad396 := (by injection e396); obtain ⟨ce396, hce396, hMe396, hcc396⟩ := Kd.S_get HO_6.out [] (rd x8_1 (ji26)) p396 (by first | exact q396 | exact of_decide_eq_true (by assumption) | (have e_ := (Kd.S_reads' HO_6.out).1; omega)); obtain ⟨ve396_0, rfl, ge396_0⟩ := hMe396; have hv396_0 := hcc396 0 _ rfl; rw [Nat.add_zero, show ((Kd.slice 3 (Kd.int .i64))).sz = 1 from rfl, Nat.mul_one] at hv396_0; replace hv396_0 := Option.some.inj (hv396_0.symm.trans hx396_0); rw [hv396_0] at ge396_0; have HL396_0 := aM_ (show Kd.R (Kd.int .i64) 3 _ _ _ _ (rd_L5 t370 (rd x8_1 (ji26))) from ge396_0); clear hv396_0 ge396_0; clear hcc396 hce396; have HR396_0 := aM_ hi396_0; have HC396_0 := aM_ hl396_0; clear hi396_0 hl396_0; replace p396 := eq_true p396; replace q396 := eq_true q396; have p397 : 0 ≤ ((rd x9_1 (ji26)) : Int) := of_decide_eq_true (by assumption); have q397 : (rd x9_1 (ji26)) < ((rd_L5 t370 (rd x8_1 (ji26))).length : Int) := of_decide_eq_true (by assumption); obtain ⟨ad397, e397, hx397_0⟩ := Kd.at_int (by repeat (first | (with_reducible exact HR396_0.out) | (with_reducible refine Kd.C_alloc ?_ _) | (with_reducible refine Kd.C_drewN ?_ _) | (with_reducible refine Kd.C_drew ?_) | exact HR396_0.out)) (rd x9_1 (ji26)) p397 q397; cases e397; replace p397 := eq_true p397; replace q397 := eq_true q397; have p398 : 0 ≤ ((rd (rd_L5 t370 (rd x8_1 (ji26))) (rd x9_1 (ji26))) : Int) := of_decide_eq_true (by assumption); have q398 : (rd (rd_L5 t370 (rd x8_1 (ji26))) (rd x9_1 (ji26))) < (x7_1.length : Int) := of_decide_eq_true (by assumption); obtain ⟨ad398, e398, hx398_0⟩ := Kd.at_bool (Kd.R_reads' HO_7.out).2.2 (rd (rd_L5 t370 (rd x8_1 (ji26))) (rd x9_1 (ji26))) p398 q398; (try rw [← Nbq47.out] at hx398_0); obtain rfl : (⟨go10, 0, none⟩ : Addr) = ad398 := (by injection e398); (first | simp only [add_plain] at hx398_0 | simp only [add_at] at hx398_0 | simp only [Addr.add, Nat.zero_add] at hx398_0 | skip); replace p398 := eq_true p398; replace q398 := eq_true q398; have p54 : 0 ≤ ((rd (rd_L5 t370 (rd x8_1 (ji26))) (rd x9_1 (ji26))) : Int) := of_decide_eq_true (by assumption); have q54 : ((rd (rd_L5 t370 (rd x8_1 (ji26))) (rd x9_1 (ji26))) : Int) < ((x7_1.length : Int) : Int) := of_decide_eq_true (by assumption); obtain ⟨hx54_0, hf54_0⟩ := Kd.R_celln false HO_7.out ((rd (rd_L5 t370 (rd x8_1 (ji26))) (rd x9_1 (ji26))) : Int) p54 q54; replace p54 := eq_true p54; replace q54 := eq_true q54; obtain ⟨hy62_, hz62_⟩ := Kd.R_celln false HO_7.out ((rd (rd_L5 t370 (rd x8_1 (ji26))) (rd x9_1 (ji26))) : Int) (of_decide_eq_true (by assumption)) (of_decide_eq_true (by assumption)); have HP62 := Kd.R_putg HO_7.out ((rd (rd_L5 t370 (rd x8_1 (ji26))) (rd x9_1 (ji26))) : Int) true) | ((with_reducible refine gate_store (t := 4) (p := 80) rfl ?_); (try (rw [drewN_self w61]; generalize hq_ : World.drewN w61 _ = w61; have n0_ := aM_ (Kd.R_at hq_ HO_5.out); have n1_ := aM_ (Kd.S_at hq_ HO_6.out); have n2_ := aM_ (Kd.R_at hq_ HO_7.out); have n3_ := aM_ (Kd.R_at hq_ HO_8.out); have n4_ := aM_ (Kd.R_at hq_ HO_9.out); have n5_ := aM_ (Kd.R_at hq_ HL385_0.out); have n6_ := aM_ (Kd.R_at hq_ HL396_0.out); have n7_ := aM_ (blk_at hq_ BK368.out); have n8_ := aM_ (below_at hq_ HB.out); clear hq_ HO_5 HO_6 HO_7 HO_8 HO_9 HL385_0 HL396_0 BK368 HB; have HO_5 := n0_; have HO_6 := n1_; have HO_7 := n2_; have HO_8 := n3_; have HO_9 := n4_; have HL385_0 := n5_; have HL396_0 := n6_; have BK368 := n7_; have HB := n8_; clear n0_ n1_ n2_ n3_ n4_ n5_ n6_ n7_ n8_; (try (obtain ⟨hy62_, hz62_⟩ := Kd.R_celln false HO_7.out ((rd (rd_L5 t370 (rd x8_1 (ji26))) (rd x9_1 (ji26))) : Int) (of_decide_eq_true (by assumption)) (of_decide_eq_true (by assumption)))); (try (have HP62 := Kd.R_putg HO_7.out ((rd (rd_L5 t370 (rd x8_1 (ji26))) (rd x9_1 (ji26))) : Int) true)))); refine store_event (t := 4) (p := 80) (v := ?vo_w63) (w1 := (w61.setCell ⟨go10, ((rd (rd_L5 t370 (rd x8_1 (ji26))) (rd x9_1 (ji26))) : Int).toNat, none⟩ (.bool true))) ?hg ?ho ?hn ?hr ?_; (case ho => rfl); (case hg => rfl); (case hn => rfl); (case hr => first | (go_simp; done) | (go_simp; rfl)); intro w63 hw; have hg : w61.grownBy w63 (some go10) := (by rw [hw]; exact HP62.2); have hp_ : Kd.R Kd.bool 4 w63 w.heap.size (fun _ => True) (.slice (some ⟨go10, 0, none⟩) x7_1.length co10) y399 := (by rw [hw, Ny399.out]; exact HP62.1); clear HP62; have n0_ := aM_ (Kd.R_over' (v := (.slice (some ⟨go10, 0, none⟩) x7_1.length co10)) (by (with_reducible repeat (first | apply rA_ | apply rB_ | apply rC_)); exact HO_5.out) (Kd.R_typed HO_7.out) (by decide) hg); have n1_ := aM_ (Kd.S_over' (v := (.slice (some ⟨go10, 0, none⟩) x7_1.length co10)) (by (with_reducible repeat (first | apply Kd.S_alloc | apply Kd.S_drewN | apply Kd.S_drew)); exact HO_6.out) (Kd.R_typed HO_7.out) (by decide) hg); have n2_ := aM_ (hp_); have n3_ := aM_ (Kd.R_over' (v := (.slice (some ⟨go10, 0, none⟩) x7_1.length co10)) (by (with_reducible repeat (first | apply rA_ | apply rB_ | apply rC_)); exact HO_8.out) (Kd.R_typed HO_7.out) (by decide) hg); have n4_ := aM_ (Kd.R_over' (v := (.slice (some ⟨go10, 0, none⟩) x7_1.length co10)) (by (with_reducible repeat (first | apply rA_ | apply rB_ | apply rC_)); exact HO_9.out) (Kd.R_typed HO_7.out) (by decide) hg); have n5_ := aM_ (blk_grown (g := gb368) (o := .cells #[.int .i64 a0_0, .slice A0_1 l0_1.length c0_1] 24 (0, 0)) (by (with_reducible repeat (first | refine blk_drewN ?_ _ | refine blk_drew ?_ | refine blk_alloc ?_ _)); exact BK368.out) hg (Kd.R_ne HO_7.out BK368.out (by decide))); have n6_ := aM_ (Kd.R_over' (v := (.slice (some ⟨go10, 0, none⟩) x7_1.length co10)) (by (with_reducible repeat (first | apply rA_ | apply rB_ | apply rC_)); exact HL385_0.out) (Kd.R_typed HO_7.out) (by decide) hg); have n7_ := aM_ (Kd.R_over' (v := (.slice (some ⟨go10, 0, none⟩) x7_1.length co10)) (by (with_reducible repeat (first | apply rA_ | apply rB_ | apply rC_)); exact HL396_0.out) (Kd.R_typed HO_7.out) (by decide) hg); have n8_ := aM_ ((by rw [hw]; exact below_set (HB.out) GB10.out : Below w.heap.size w w63)); clear HO_5; clear HO_6; clear HO_7; clear HO_8; clear HO_9; clear BK368; clear HL385_0; clear HL396_0; clear HB; have HO_5 := n0_; have HO_6 := n1_; have HO_7 := n2_; have HO_8 := n3_; have HO_9 := n4_; have BK368 := n5_; have HL385_0 := n6_; have HL396_0 := n7_; have HB := n8_; clear n0_ n1_ n2_ n3_ n4_ n5_ n6_ n7_ n8_; clear hg hw hp_) | ((with_reducible refine gate_builtin (b := .append) (xs := #[.tmp 81, .tmp 83]) rfl ?_); at_builtin; refine Kd.R_append (Kd.int .i64) (w0 := w) w.heap.size rfl (.tmp 81) (.tmp 83) 31 3 (.int .i64 0) 8 rfl Tryd.underlying31 info3 rfl (by decide) (by omega) (.slice (some ad383) x8_1.length co57) x8_1 (rd (rd_L5 t370 (rd x8_1 (ji26))) (rd x9_1 (ji26))) [.int .i64 (rd (rd_L5 t370 (rd x8_1 (ji26))) (rd x9_1 (ji26)))] (fun k_ => some k_ ≠ (u5 : Value).ownBlock ∧ some k_ ≠ (.slice (some ⟨go42, 0, none⟩) x9_1.length co58 : Value).ownBlock) (fun _ => False) rfl rfl ?aP (fun _ hk => hk.elim) ?aF ?aO ?aB ?aS ?aL ?_; (case aP => exact rfl); (case aB => exact (by repeat (first | (with_reducible first | exact HB.out | apply bA_ | apply bB_ | apply bC_ | refine below_set ?_ GE368.out) | exact HB.out))); (case aF => exact (fun k_ hk => ⟨Kd.fresh' (Kd.R_lt (by (with_reducible repeat (first | apply rA_ | apply rB_ | apply rC_)); exact HO_5.out)) k_ hk, Kd.fresh' (Kd.R_lt (by (with_reducible repeat (first | apply rA_ | apply rB_ | apply rC_)); exact HO_9.out)) k_ hk⟩)); (case aO => exact (by (with_reducible repeat (first | apply rA_ | apply rB_ | apply rC_)); exact HO_8.out)); (case aS => exact (below_size (by repeat (first | (with_reducible first | exact HB.out | apply bA_ | apply bB_ | apply bC_ | refine below_set ?_ GE368.out) | exact HB.out)))); (case aL => have := LMc55.out; omega); intro v401 w64 ho hb hg hat; rw [← Ny400.out] at ho; have n0_ := aM_ (Kd.R_after (ok := (fun k_ => some k_ ≠ (.slice (some ⟨go42, 0, none⟩) x9_1.length co58 : Value).ownBlock)) (by (with_reducible repeat (first | apply rA_ | apply rB_ | apply rC_)); exact Kd.R_mono HO_5.out (fun _ hk => ⟨hk.2, hk.1⟩)) hg hat); have n1_ := aM_ (Kd.S_after (ok := (fun k_ => some k_ ≠ (u5 : Value).ownBlock ∧ some k_ ≠ (.slice (some ⟨go42, 0, none⟩) x9_1.length co58 : Value).ownBlock)) (by (with_reducible repeat (first | apply Kd.S_alloc | apply Kd.S_drewN | apply Kd.S_drew)); exact Kd.S_mono HO_6.out (fun _ hk => ⟨⟨hk.1.1, hk.2⟩, hk.1.2⟩)) hg hat); have n2_ := aM_ (Kd.R_over' (by (with_reducible repeat (first | apply rA_ | apply rB_ | apply rC_)); exact HO_7.out) (Kd.R_typed (by (with_reducible repeat (first | apply rA_ | apply rB_ | apply rC_)); exact HO_8.out)) (by decide) hg); have n3_ := aM_ (Kd.R_after (ok := (fun k_ => some k_ ≠ (u5 : Value).ownBlock)) (by (with_reducible repeat (first | apply rA_ | apply rB_ | apply rC_)); exact HO_9.out) hg hat); have n4_ := aM_ (blk_grown (g := gb368) (o := .cells #[.int .i64 a0_0, .slice A0_1 l0_1.length c0_1] 24 (0, 0)) (by (with_reducible repeat (first | refine blk_drewN ?_ _ | refine blk_drew ?_ | refine blk_alloc ?_ _)); exact BK368.out) hg (Kd.R_ne HO_8.out BK368.out (by decide))); have n5_ := aM_ (Kd.R_after (ok := (fun k_ => some k_ ≠ (u5 : Value).ownBlock ∧ some k_ ≠ (.slice (some ad385) t370.length co59 : Value).ownBlock ∧ some k_ ≠ (.slice (some ⟨go42, 0, none⟩) x9_1.length co58 : Value).ownBlock)) (by (with_reducible repeat (first | apply rA_ | apply rB_ | apply rC_)); exact Kd.R_mono HL385_0.out (fun _ hk => ⟨⟨hk.1.1, ⟨hk.1.2.1, hk.2⟩⟩, hk.1.2.2⟩)) hg hat); have n6_ := aM_ (Kd.R_after (ok := (fun k_ => some k_ ≠ (u5 : Value).ownBlock ∧ some k_ ≠ (.slice (some ad385) t370.length co59 : Value).ownBlock ∧ some k_ ≠ (.slice (some ⟨go42, 0, none⟩) x9_1.length co58 : Value).ownBlock)) (by (with_reducible repeat (first | apply rA_ | apply rB_ | apply rC_)); exact Kd.R_mono HL396_0.out (fun _ hk => ⟨⟨hk.1.1.1, ⟨hk.2, hk.1.2⟩⟩, hk.1.1.2⟩)) hg hat); have n7_ := aM_ (hb); have n8_ := aM_ (ho); clear HO_5; clear HO_6; clear HO_7; clear HO_9; clear BK368; clear HL385_0; clear HL396_0; clear HB; clear HO_8; have HO_5 := n0_; have HO_6 := n1_; have HO_7 := n2_; have HO_9 := n3_; have BK368 := n4_; have HL385_0 := n5_; have HL396_0 := n6_; have HB := n7_; have HO402 := n8_; clear n0_ n1_ n2_ n3_ n4_ n5_ n6_ n7_ n8_; clear ho hb hg hat) | ((with_reducible refine gate_builtin (b := .append) (xs := #[.tmp 85, .tmp 86]) rfl ?_); at_builtin; refine Kd.R_append (Kd.int .i64) (w0 := w) w.heap.size rfl (.tmp 85) (.tmp 86) 31 3 (.int .i64 0) 8 rfl Tryd.underlying31 info3 rfl (by decide) (by omega) (.slice (some ⟨go42, 0, none⟩) x9_1.length co58) y395 0 [.int .i64 0] (fun k_ => some k_ ≠ (u5 : Value).ownBlock ∧ some k_ ≠ (v401 : Value).ownBlock) (fun _ => False) rfl rfl ?aP (fun _ hk => hk.elim) ?aF ?aO ?aB ?aS ?aL ?_; (case aP => exact rfl); (case aB => exact (by repeat (first | (with_reducible first | exact HB.out | apply bA_ | apply bB_ | apply bC_ | refine below_set ?_ GE368.out) | exact HB.out))); (case aF => exact (fun k_ hk => ⟨Kd.fresh' (Kd.R_lt (by (with_reducible repeat (first | apply rA_ | apply rB_ | apply rC_)); exact HO_5.out)) k_ hk, Kd.fresh' (Kd.R_lt (by (with_reducible repeat (first | apply rA_ | apply rB_ | apply rC_)); exact HO402.out)) k_ hk⟩)); (case aO => exact (by (with_reducible repeat (first | apply rA_ | apply rB_ | apply rC_)); exact HO_9.out)); (case aS => exact (below_size (by repeat (first | (with_reducible first | exact HB.out | apply bA_ | apply bB_ | apply bC_ | refine below_set ?_ GE368.out) | exact HB.out)))); (case aL => have := LMc56.out; omega); intro v404 w65 ho hb hg hat; rw [← Ny403.out] at ho; have n0_ := aM_ (Kd.R_after (ok := (fun k_ => some k_ ≠ (v401 : Value).ownBlock)) (by (with_reducible repeat (first | apply rA_ | apply rB_ | apply rC_)); exact Kd.R_mono HO_5.out (fun _ hk => ⟨hk.2, hk.1⟩)) hg hat); have n1_ := aM_ (Kd.S_after (ok := (fun k_ => some k_ ≠ (u5 : Value).ownBlock ∧ some k_ ≠ (v401 : Value).ownBlock)) (by (with_reducible repeat (first | apply Kd.S_alloc | apply Kd.S_drewN | apply Kd.S_drew)); exact Kd.S_mono HO_6.out (fun _ hk => ⟨⟨hk.1.1, hk.2⟩, hk.1.2⟩)) hg hat); have n2_ := aM_ (Kd.R_over' (by (with_reducible repeat (first | apply rA_ | apply rB_ | apply rC_)); exact HO_7.out) (Kd.R_typed (by (with_reducible repeat (first | apply rA_ | apply rB_ | apply rC_)); exact HO_9.out)) (by decide) hg); have n3_ := aM_ (blk_grown (g := gb368) (o := .cells #[.int .i64 a0_0, .slice A0_1 l0_1.length c0_1] 24 (0, 0)) (by (with_reducible repeat (first | refine blk_drewN ?_ _ | refine blk_drew ?_ | refine blk_alloc ?_ _)); exact BK368.out) hg (Kd.R_ne HO_9.out BK368.out (by decide))); have n4_ := aM_ (Kd.R_after (ok := (fun k_ => some k_ ≠ (u5 : Value).ownBlock ∧ some k_ ≠ (.slice (some ad385) t370.length co59 : Value).ownBlock ∧ some k_ ≠ (v401 : Value).ownBlock)) (by (with_reducible repeat (first | apply rA_ | apply rB_ | apply rC_)); exact Kd.R_mono HL385_0.out (fun _ hk => ⟨⟨hk.1.1, ⟨hk.1.2.1, hk.2⟩⟩, hk.1.2.2⟩)) hg hat); have n5_ := aM_ (Kd.R_after (ok := (fun k_ => some k_ ≠ (u5 : Value).ownBlock ∧ some k_ ≠ (.slice (some ad385) t370.length co59 : Value).ownBlock ∧ some k_ ≠ (v401 : Value).ownBlock)) (by (with_reducible repeat (first | apply rA_ | apply rB_ | apply rC_)); exact Kd.R_mono HL396_0.out (fun _ hk => ⟨⟨hk.1.1, ⟨hk.1.2.1, hk.2⟩⟩, hk.1.2.2⟩)) hg hat); have n6_ := aM_ (Kd.R_after (ok := (fun k_ => some k_ ≠ (u5 : Value).ownBlock)) (by (with_reducible repeat (first | apply rA_ | apply rB_ | apply rC_)); exact HO402.out) hg hat); have n7_ := aM_ (hb); have n8_ := aM_ (ho); clear HO_5; clear HO_6; clear HO_7; clear BK368; clear HL385_0; clear HL396_0; clear HO402; clear HB; clear HO_9; have HO_5 := n0_; have HO_6 := n1_; have HO_7 := n2_; have BK368 := n3_; have HL385_0 := n4_; have HL396_0 := n5_; have HO402 := n6_; have HB := n7_; have HO405 := n8_; clear n0_ n1_ n2_ n3_ n4_ n5_ n6_ n7_ n8_; clear ho hb hg hat)); try go_wp2_with (first | ((with_reducible refine gate_store (t := 3) (p := 65) rfl ?_); (try (rw [drewN_self wr]; generalize hq_ : World.drewN wr _ = wr; have n0_ := aM_ (Kd.R_at hq_ HO_5.out); have n1_ := aM_ (Kd.S_at hq_ HO_6.out); have n2_ := aM_ (Kd.R_at hq_ HO_7.out); have n3_ := aM_ (Kd.R_at hq_ HO_8.out); have n4_ := aM_ (Kd.R_at hq_ HO_9.out); have n5_ := aM_ (Kd.R_at hq_ HL385_0.out); have n6_ := aM_ (blk_at hq_ BK368.out); have n7_ := aM_ (below_at hq_ HB.out); clear hq_ HO_5 HO_6 HO_7 HO_8 HO_9 HL385_0 BK368 HB; have HO_5 := n0_; have HO_6 := n1_; have HO_7 := n2_; have HO_8 := n3_; have HO_9 := n4_; have HL385_0 := n5_; have BK368 := n6_; have HB := n7_; clear n0_ n1_ n2_ n3_ n4_ n5_ n6_ n7_; (try (obtain ⟨hy60_, hz60_⟩ := Kd.R_celln 0 HO_9.out ((ji26) : Int) (of_decide_eq_true (by assumption)) (of_decide_eq_true (by assumption)))); (try (have HP60 := Kd.R_putg HO_9.out ((ji26) : Int) (wrap64 ((rd x9_1 (ji26)) + 1)))))); refine store_event (t := 3) (p := 65) (v := ?vo_w61) (w1 := (wr.setCell ⟨go42, ((ji26) : Int).toNat, none⟩ (.int .i64 (wrap64 ((rd x9_1 (ji26)) + 1))))) ?hg ?ho ?hn ?hr ?_; (case ho => rfl); (case hg => rfl); (case hn => rfl); (case hr => first | (go_simp; done) | (go_simp; rfl)); intro w61 hw; have hg : wr.grownBy w61 (some go42) := (by rw [hw]; exact HP60.2); have hp_ : Kd.R (Kd.int .i64) 3 w61 w.heap.size (fun k_ => some k_ ≠ (u5 : Value).ownBlock ∧ some k_ ≠ (.slice (some ad383) x8_1.length co57 : Value).ownBlock) (.slice (some ⟨go42, 0, none⟩) x9_1.length co58) y395 := (by rw [hw, Ny395.out]; exact HP60.1); clear HP60; have n0_ := aM_ (Kd.R_after (v := (.slice (some ⟨go42, 0, none⟩) x9_1.length co58)) (v1 := (.slice (some ⟨go42, 0, none⟩) x9_1.length co58)) (ok := (fun k_ => some k_ ≠ (.slice (some ad383) x8_1.length co57 : Value).ownBlock)) (by (with_reducible repeat (first | apply rA_ | apply rB_ | apply rC_)); exact HO_5.out) hg (.inl rfl)); have n1_ := aM_ (Kd.S_after (v := (.slice (some ⟨go42, 0, none⟩) x9_1.length co58)) (v1 := (.slice (some ⟨go42, 0, none⟩) x9_1.length co58)) (ok := (fun k_ => some k_ ≠ (u5 : Value).ownBlock ∧ some k_ ≠ (.slice (some ad383) x8_1.length co57 : Value).ownBlock)) (by (with_reducible repeat (first | apply Kd.S_alloc | apply Kd.S_drewN | apply Kd.S_drew)); exact Kd.S_mono HO_6.out (fun _ hk => ⟨⟨hk.1, hk.2.1⟩, hk.2.2⟩)) hg (.inl rfl)); have n2_ := aM_ (Kd.R_over' (v := (.slice (some ⟨go42, 0, none⟩) x9_1.length co58)) (by (with_reducible repeat (first | apply rA_ | apply rB_ | apply rC_)); exact HO_7.out) (Kd.R_typed HO_9.out) (by decide) hg); have n3_ := aM_ (Kd.R_after (v := (.slice (some ⟨go42, 0, none⟩) x9_1.length co58)) (v1 := (.slice (some ⟨go42, 0, none⟩) x9_1.length co58)) (ok := (fun k_ => some k_ ≠ (u5 : Value).ownBlock)) (by (with_reducible repeat (first | apply rA_ | apply rB_ | apply rC_)); exact HO_8.out) hg (.inl rfl)); have n4_ := aM_ (hp_); have n5_ := aM_ (blk_grown (g := gb368) (o := .cells #[.int .i64 a0_0, .slice A0_1 l0_1.length c0_1] 24 (0, 0)) (by (with_reducible repeat (first | refine blk_drewN ?_ _ | refine blk_drew ?_ | refine blk_alloc ?_ _)); exact BK368.out) hg (Kd.R_ne HO_9.out BK368.out (by decide))); have n6_ := aM_ (Kd.R_after (v := (.slice (some ⟨go42, 0, none⟩) x9_1.length co58)) (v1 := (.slice (some ⟨go42, 0, none⟩) x9_1.length co58)) (ok := (fun k_ => some k_ ≠ (u5 : Value).ownBlock ∧ some k_ ≠ (.slice (some ad385) t370.length co59 : Value).ownBlock ∧ some k_ ≠ (.slice (some ad383) x8_1.length co57 : Value).ownBlock)) (by (with_reducible repeat (first | apply rA_ | apply rB_ | apply rC_)); exact Kd.R_mono HL385_0.out (fun _ hk => ⟨⟨hk.1.1, ⟨hk.2, hk.1.2.1⟩⟩, hk.1.2.2⟩)) hg (.inl rfl)); have n7_ := aM_ ((by rw [hw]; exact below_set (HB.out) GB42.out : Below w.heap.size w w61)); clear HO_5; clear HO_6; clear HO_7; clear HO_8; clear HO_9; clear BK368; clear HL385_0; clear HB; have HO_5 := n0_; have HO_6 := n1_; have HO_7 := n2_; have HO_8 := n3_; have HO_9 := n4_; have BK368 := n5_; have HL385_0 := n6_; have HB := n7_; clear n0_ n1_ n2_ n3_ n4_ n5_ n6_ n7_; clear hg hw hp_; have p396 : 0 ≤ ((rd x8_1 (ji26)) : Int) := of_decide_eq_true (by assumption); have q396 : (rd x8_1 (ji26)) < (t370.length : Int) := of_decide_eq_true (by assumption); obtain ⟨ad396, A396_0, c396_0, e396, hx396_0, hl396_0, hi396_0⟩ := at_L5 (Kd.S_reads' HO_6.out).2.2 (rd x8_1 (ji26)) p396 q396; obtain rfl : ad385 = ad396 := (by injection e396); obtain ⟨ce396, hce396, hMe396, hcc396⟩ := Kd.S_get HO_6.out [] (rd x8_1 (ji26)) p396 (by first | exact q396 | exact of_decide_eq_true (by assumption) | (have e_ := (Kd.S_reads' HO_6.out).1; omega)); obtain ⟨ve396_0, rfl, ge396_0⟩ := hMe396; have hv396_0 := hcc396 0 _ rfl; rw [Nat.add_zero, show ((Kd.slice 3 (Kd.int .i64))).sz = 1 from rfl, Nat.mul_one] at hv396_0; replace hv396_0 := Option.some.inj (hv396_0.symm.trans hx396_0); rw [hv396_0] at ge396_0; have HL396_0 := aM_ (show Kd.R (Kd.int .i64) 3 _ _ _ _ (rd_L5 t370 (rd x8_1 (ji26))) from ge396_0); clear hv396_0 ge396_0; clear hcc396 hce396; have HR396_0 := aM_ hi396_0; have HC396_0 := aM_ hl396_0; clear hi396_0 hl396_0; replace p396 := eq_true p396; replace q396 := eq_true q396; have p397 : 0 ≤ ((rd x9_1 (ji26)) : Int) := of_decide_eq_true (by assumption); have q397 : (rd x9_1 (ji26)) < ((rd_L5 t370 (rd x8_1 (ji26))).length : Int) := of_decide_eq_true (by assumption); obtain ⟨ad397, e397, hx397_0⟩ := Kd.at_int (by repeat (first | (with_reducible exact HR396_0.out) | (with_reducible refine Kd.C_alloc ?_ _) | (with_reducible refine Kd.C_drewN ?_ _) | (with_reducible refine Kd.C_drew ?_) | exact HR396_0.out)) (rd x9_1 (ji26)) p397 q397; cases e397; replace p397 := eq_true p397; replace q397 := eq_true q397; have p398 : 0 ≤ ((rd (rd_L5 t370 (rd x8_1 (ji26))) (rd x9_1 (ji26))) : Int) := of_decide_eq_true (by assumption); have q398 : (rd (rd_L5 t370 (rd x8_1 (ji26))) (rd x9_1 (ji26))) < (x7_1.length : Int) := of_decide_eq_true (by assumption); obtain ⟨ad398, e398, hx398_0⟩ := Kd.at_bool (Kd.R_reads' HO_7.out).2.2 (rd (rd_L5 t370 (rd x8_1 (ji26))) (rd x9_1 (ji26))) p398 q398; (try rw [← Nbq47.out] at hx398_0); obtain rfl : (⟨go10, 0, none⟩ : Addr) = ad398 := (by injection e398); (first | simp only [add_plain] at hx398_0 | simp only [add_at] at hx398_0 | simp only [Addr.add, Nat.zero_add] at hx398_0 | skip); replace p398 := eq_true p398; replace q398 := eq_true q398; have p54 : 0 ≤ ((rd (rd_L5 t370 (rd x8_1 (ji26))) (rd x9_1 (ji26))) : Int) := of_decide_eq_true (by assumption); have q54 : ((rd (rd_L5 t370 (rd x8_1 (ji26))) (rd x9_1 (ji26))) : Int) < ((x7_1.length : Int) : Int) := of_decide_eq_true (by assumption); obtain ⟨hx54_0, hf54_0⟩ := Kd.R_celln false HO_7.out ((rd (rd_L5 t370 (rd x8_1 (ji26))) (rd x9_1 (ji26))) : Int) p54 q54; replace p54 := eq_true p54; replace q54 := eq_true q54; obtain ⟨hy62_, hz62_⟩ := Kd.R_celln false HO_7.out ((rd (rd_L5 t370 (rd x8_1 (ji26))) (rd x9_1 (ji26))) : Int) (of_decide_eq_true (by assumption)) (of_decide_eq_true (by assumption)); have HP62 := Kd.R_putg HO_7.out ((rd (rd_L5 t370 (rd x8_1 (ji26))) (rd x9_1 (ji26))) : Int) true) | ((with_reducible refine gate_store (t := 4) (p := 80) rfl ?_); (try (rw [drewN_self w61]; generalize hq_ : World.drewN w61 _ = w61; have n0_ := aM_ (Kd.R_at hq_ HO_5.out); have n1_ := aM_ (Kd.S_at hq_ HO_6.out); have n2_ := aM_ (Kd.R_at hq_ HO_7.out); have n3_ := aM_ (Kd.R_at hq_ HO_8.out); have n4_ := aM_ (Kd.R_at hq_ HO_9.out); have n5_ := aM_ (Kd.R_at hq_ HL385_0.out); have n6_ := aM_ (Kd.R_at hq_ HL396_0.out); have n7_ := aM_ (blk_at hq_ BK368.out); have n8_ := aM_ (below_at hq_ HB.out); clear hq_ HO_5 HO_6 HO_7 HO_8 HO_9 HL385_0 HL396_0 BK368 HB; have HO_5 := n0_; have HO_6 := n1_; have HO_7 := n2_; have HO_8 := n3_; have HO_9 := n4_; have HL385_0 := n5_; have HL396_0 := n6_; have BK368 := n7_; have HB := n8_; clear n0_ n1_ n2_ n3_ n4_ n5_ n6_ n7_ n8_; (try (obtain ⟨hy62_, hz62_⟩ := Kd.R_celln false HO_7.out ((rd (rd_L5 t370 (rd x8_1 (ji26))) (rd x9_1 (ji26))) : Int) (of_decide_eq_true (by assumption)) (of_decide_eq_true (by assumption)))); (try (have HP62 := Kd.R_putg HO_7.out ((rd (rd_L5 t370 (rd x8_1 (ji26))) (rd x9_1 (ji26))) : Int) true)))); refine store_event (t := 4) (p := 80) (v := ?vo_w63) (w1 := (w61.setCell ⟨go10, ((rd (rd_L5 t370 (rd x8_1 (ji26))) (rd x9_1 (ji26))) : Int).toNat, none⟩ (.bool true))) ?hg ?ho ?hn ?hr ?_; (case ho => rfl); (case hg => rfl); (case hn => rfl); (case hr => first | (go_simp; done) | (go_simp; rfl)); intro w63 hw; have hg : w61.grownBy w63 (some go10) := (by rw [hw]; exact HP62.2); have hp_ : Kd.R Kd.bool 4 w63 w.heap.size (fun _ => True) (.slice (some ⟨go10, 0, none⟩) x7_1.length co10) y399 := (by rw [hw, Ny399.out]; exact HP62.1); clear HP62; have n0_ := aM_ (Kd.R_over' (v := (.slice (some ⟨go10, 0, none⟩) x7_1.length co10)) (by (with_reducible repeat (first | apply rA_ | apply rB_ | apply rC_)); exact HO_5.out) (Kd.R_typed HO_7.out) (by decide) hg); have n1_ := aM_ (Kd.S_over' (v := (.slice (some ⟨go10, 0, none⟩) x7_1.length co10)) (by (with_reducible repeat (first | apply Kd.S_alloc | apply Kd.S_drewN | apply Kd.S_drew)); exact HO_6.out) (Kd.R_typed HO_7.out) (by decide) hg); have n2_ := aM_ (hp_); have n3_ := aM_ (Kd.R_over' (v := (.slice (some ⟨go10, 0, none⟩) x7_1.length co10)) (by (with_reducible repeat (first | apply rA_ | apply rB_ | apply rC_)); exact HO_8.out) (Kd.R_typed HO_7.out) (by decide) hg); have n4_ := aM_ (Kd.R_over' (v := (.slice (some ⟨go10, 0, none⟩) x7_1.length co10)) (by (with_reducible repeat (first | apply rA_ | apply rB_ | apply rC_)); exact HO_9.out) (Kd.R_typed HO_7.out) (by decide) hg); have n5_ := aM_ (blk_grown (g := gb368) (o := .cells #[.int .i64 a0_0, .slice A0_1 l0_1.length c0_1] 24 (0, 0)) (by (with_reducible repeat (first | refine blk_drewN ?_ _ | refine blk_drew ?_ | refine blk_alloc ?_ _)); exact BK368.out) hg (Kd.R_ne HO_7.out BK368.out (by decide))); have n6_ := aM_ (Kd.R_over' (v := (.slice (some ⟨go10, 0, none⟩) x7_1.length co10)) (by (with_reducible repeat (first | apply rA_ | apply rB_ | apply rC_)); exact HL385_0.out) (Kd.R_typed HO_7.out) (by decide) hg); have n7_ := aM_ (Kd.R_over' (v := (.slice (some ⟨go10, 0, none⟩) x7_1.length co10)) (by (with_reducible repeat (first | apply rA_ | apply rB_ | apply rC_)); exact HL396_0.out) (Kd.R_typed HO_7.out) (by decide) hg); have n8_ := aM_ ((by rw [hw]; exact below_set (HB.out) GB10.out : Below w.heap.size w w63)); clear HO_5; clear HO_6; clear HO_7; clear HO_8; clear HO_9; clear BK368; clear HL385_0; clear HL396_0; clear HB; have HO_5 := n0_; have HO_6 := n1_; have HO_7 := n2_; have HO_8 := n3_; have HO_9 := n4_; have BK368 := n5_; have HL385_0 := n6_; have HL396_0 := n7_; have HB := n8_; clear n0_ n1_ n2_ n3_ n4_ n5_ n6_ n7_ n8_; clear hg hw hp_) | ((with_reducible refine gate_builtin (b := .append) (xs := #[.tmp 81, .tmp 83]) rfl ?_); at_builtin; refine Kd.R_append (Kd.int .i64) (w0 := w) w.heap.size rfl (.tmp 81) (.tmp 83) 31 3 (.int .i64 0) 8 rfl Tryd.underlying31 info3 rfl (by decide) (by omega) (.slice (some ad383) x8_1.length co57) x8_1 (rd (rd_L5 t370 (rd x8_1 (ji26))) (rd x9_1 (ji26))) [.int .i64 (rd (rd_L5 t370 (rd x8_1 (ji26))) (rd x9_1 (ji26)))] (fun k_ => some k_ ≠ (u5 : Value).ownBlock ∧ some k_ ≠ (.slice (some ⟨go42, 0, none⟩) x9_1.length co58 : Value).ownBlock) (fun _ => False) rfl rfl ?aP (fun _ hk => hk.elim) ?aF ?aO ?aB ?aS ?aL ?_; (case aP => exact rfl); (case aB => exact (by repeat (first | (with_reducible first | exact HB.out | apply bA_ | apply bB_ | apply bC_ | refine below_set ?_ GE368.out) | exact HB.out))); (case aF => exact (fun k_ hk => ⟨Kd.fresh' (Kd.R_lt (by (with_reducible repeat (first | apply rA_ | apply rB_ | apply rC_)); exact HO_5.out)) k_ hk, Kd.fresh' (Kd.R_lt (by (with_reducible repeat (first | apply rA_ | apply rB_ | apply rC_)); exact HO_9.out)) k_ hk⟩)); (case aO => exact (by (with_reducible repeat (first | apply rA_ | apply rB_ | apply rC_)); exact HO_8.out)); (case aS => exact (below_size (by repeat (first | (with_reducible first | exact HB.out | apply bA_ | apply bB_ | apply bC_ | refine below_set ?_ GE368.out) | exact HB.out)))); (case aL => have := LMc55.out; omega); intro v401 w64 ho hb hg hat; rw [← Ny400.out] at ho; have n0_ := aM_ (Kd.R_after (ok := (fun k_ => some k_ ≠ (.slice (some ⟨go42, 0, none⟩) x9_1.length co58 : Value).ownBlock)) (by (with_reducible repeat (first | apply rA_ | apply rB_ | apply rC_)); exact Kd.R_mono HO_5.out (fun _ hk => ⟨hk.2, hk.1⟩)) hg hat); have n1_ := aM_ (Kd.S_after (ok := (fun k_ => some k_ ≠ (u5 : Value).ownBlock ∧ some k_ ≠ (.slice (some ⟨go42, 0, none⟩) x9_1.length co58 : Value).ownBlock)) (by (with_reducible repeat (first | apply Kd.S_alloc | apply Kd.S_drewN | apply Kd.S_drew)); exact Kd.S_mono HO_6.out (fun _ hk => ⟨⟨hk.1.1, hk.2⟩, hk.1.2⟩)) hg hat); have n2_ := aM_ (Kd.R_over' (by (with_reducible repeat (first | apply rA_ | apply rB_ | apply rC_)); exact HO_7.out) (Kd.R_typed (by (with_reducible repeat (first | apply rA_ | apply rB_ | apply rC_)); exact HO_8.out)) (by decide) hg); have n3_ := aM_ (Kd.R_after (ok := (fun k_ => some k_ ≠ (u5 : Value).ownBlock)) (by (with_reducible repeat (first | apply rA_ | apply rB_ | apply rC_)); exact HO_9.out) hg hat); have n4_ := aM_ (blk_grown (g := gb368) (o := .cells #[.int .i64 a0_0, .slice A0_1 l0_1.length c0_1] 24 (0, 0)) (by (with_reducible repeat (first | refine blk_drewN ?_ _ | refine blk_drew ?_ | refine blk_alloc ?_ _)); exact BK368.out) hg (Kd.R_ne HO_8.out BK368.out (by decide))); have n5_ := aM_ (Kd.R_after (ok := (fun k_ => some k_ ≠ (u5 : Value).ownBlock ∧ some k_ ≠ (.slice (some ad385) t370.length co59 : Value).ownBlock ∧ some k_ ≠ (.slice (some ⟨go42, 0, none⟩) x9_1.length co58 : Value).ownBlock)) (by (with_reducible repeat (first | apply rA_ | apply rB_ | apply rC_)); exact Kd.R_mono HL385_0.out (fun _ hk => ⟨⟨hk.1.1, ⟨hk.1.2.1, hk.2⟩⟩, hk.1.2.2⟩)) hg hat); have n6_ := aM_ (Kd.R_after (ok := (fun k_ => some k_ ≠ (u5 : Value).ownBlock ∧ some k_ ≠ (.slice (some ad385) t370.length co59 : Value).ownBlock ∧ some k_ ≠ (.slice (some ⟨go42, 0, none⟩) x9_1.length co58 : Value).ownBlock)) (by (with_reducible repeat (first | apply rA_ | apply rB_ | apply rC_)); exact Kd.R_mono HL396_0.out (fun _ hk => ⟨⟨hk.1.1.1, ⟨hk.2, hk.1.2⟩⟩, hk.1.1.2⟩)) hg hat); have n7_ := aM_ (hb); have n8_ := aM_ (ho); clear HO_5; clear HO_6; clear HO_7; clear HO_9; clear BK368; clear HL385_0; clear HL396_0; clear HB; clear HO_8; have HO_5 := n0_; have HO_6 := n1_; have HO_7 := n2_; have HO_9 := n3_; have BK368 := n4_; have HL385_0 := n5_; have HL396_0 := n6_; have HB := n7_; have HO402 := n8_; clear n0_ n1_ n2_ n3_ n4_ n5_ n6_ n7_ n8_; clear ho hb hg hat) | ((with_reducible refine gate_builtin (b := .append) (xs := #[.tmp 85, .tmp 86]) rfl ?_); at_builtin; refine Kd.R_append (Kd.int .i64) (w0 := w) w.heap.size rfl (.tmp 85) (.tmp 86) 31 3 (.int .i64 0) 8 rfl Tryd.underlying31 info3 rfl (by decide) (by omega) (.slice (some ⟨go42, 0, none⟩) x9_1.length co58) y395 0 [.int .i64 0] (fun k_ => some k_ ≠ (u5 : Value).ownBlock ∧ some k_ ≠ (v401 : Value).ownBlock) (fun _ => False) rfl rfl ?aP (fun _ hk => hk.elim) ?aF ?aO ?aB ?aS ?aL ?_; (case aP => exact rfl); (case aB => exact (by repeat (first | (with_reducible first | exact HB.out | apply bA_ | apply bB_ | apply bC_ | refine below_set ?_ GE368.out) | exact HB.out))); (case aF => exact (fun k_ hk => ⟨Kd.fresh' (Kd.R_lt (by (with_reducible repeat (first | apply rA_ | apply rB_ | apply rC_)); exact HO_5.out)) k_ hk, Kd.fresh' (Kd.R_lt (by (with_reducible repeat (first | apply rA_ | apply rB_ | apply rC_)); exact HO402.out)) k_ hk⟩)); (case aO => exact (by (with_reducible repeat (first | apply rA_ | apply rB_ | apply rC_)); exact HO_9.out)); (case aS => exact (below_size (by repeat (first | (with_reducible first | exact HB.out | apply bA_ | apply bB_ | apply bC_ | refine below_set ?_ GE368.out) | exact HB.out)))); (case aL => have := LMc56.out; omega); intro v404 w65 ho hb hg hat; rw [← Ny403.out] at ho; have n0_ := aM_ (Kd.R_after (ok := (fun k_ => some k_ ≠ (v401 : Value).ownBlock)) (by (with_reducible repeat (first | apply rA_ | apply rB_ | apply rC_)); exact Kd.R_mono HO_5.out (fun _ hk => ⟨hk.2, hk.1⟩)) hg hat); have n1_ := aM_ (Kd.S_after (ok := (fun k_ => some k_ ≠ (u5 : Value).ownBlock ∧ some k_ ≠ (v401 : Value).ownBlock)) (by (with_reducible repeat (first | apply Kd.S_alloc | apply Kd.S_drewN | apply Kd.S_drew)); exact Kd.S_mono HO_6.out (fun _ hk => ⟨⟨hk.1.1, hk.2⟩, hk.1.2⟩)) hg hat); have n2_ := aM_ (Kd.R_over' (by (with_reducible repeat (first | apply rA_ | apply rB_ | apply rC_)); exact HO_7.out) (Kd.R_typed (by (with_reducible repeat (first | apply rA_ | apply rB_ | apply rC_)); exact HO_9.out)) (by decide) hg); have n3_ := aM_ (blk_grown (g := gb368) (o := .cells #[.int .i64 a0_0, .slice A0_1 l0_1.length c0_1] 24 (0, 0)) (by (with_reducible repeat (first | refine blk_drewN ?_ _ | refine blk_drew ?_ | refine blk_alloc ?_ _)); exact BK368.out) hg (Kd.R_ne HO_9.out BK368.out (by decide))); have n4_ := aM_ (Kd.R_after (ok := (fun k_ => some k_ ≠ (u5 : Value).ownBlock ∧ some k_ ≠ (.slice (some ad385) t370.length co59 : Value).ownBlock ∧ some k_ ≠ (v401 : Value).ownBlock)) (by (with_reducible repeat (first | apply rA_ | apply rB_ | apply rC_)); exact Kd.R_mono HL385_0.out (fun _ hk => ⟨⟨hk.1.1, ⟨hk.1.2.1, hk.2⟩⟩, hk.1.2.2⟩)) hg hat); have n5_ := aM_ (Kd.R_after (ok := (fun k_ => some k_ ≠ (u5 : Value).ownBlock ∧ some k_ ≠ (.slice (some ad385) t370.length co59 : Value).ownBlock ∧ some k_ ≠ (v401 : Value).ownBlock)) (by (with_reducible repeat (first | apply rA_ | apply rB_ | apply rC_)); exact Kd.R_mono HL396_0.out (fun _ hk => ⟨⟨hk.1.1, ⟨hk.1.2.1, hk.2⟩⟩, hk.1.2.2⟩)) hg hat); have n6_ := aM_ (Kd.R_after (ok := (fun k_ => some k_ ≠ (u5 : Value).ownBlock)) (by (with_reducible repeat (first | apply rA_ | apply rB_ | apply rC_)); exact HO402.out) hg hat); have n7_ := aM_ (hb); have n8_ := aM_ (ho); clear HO_5; clear HO_6; clear HO_7; clear BK368; clear HL385_0; clear HL396_0; clear HO402; clear HB; clear HO_9; have HO_5 := n0_; have HO_6 := n1_; have HO_7 := n2_; have BK368 := n3_; have HL385_0 := n4_; have HL396_0 := n5_; have HO402 := n6_; have HB := n7_; have HO405 := n8_; clear n0_ n1_ n2_ n3_ n4_ n5_ n6_ n7_ n8_; clear ho hb hg hat)))
                      (try simp only [← hl7_1])
                      go_roundg k1
                      case measure => have := HK1.out; omega
                      case rel => exact ⟨(x5_1), (y399), (y400), (y403), H', ⟨by have := HK1.out; omega⟩, ⟨by (try simp only [hl7_1]); (with_reducible repeat (first | apply rA_ | apply rB_ | apply rC_)); exact HO_5.out⟩, ⟨by (try simp only [hl7_1]); (with_reducible repeat (first | apply Kd.S_alloc | apply Kd.S_drewN | apply Kd.S_drew)); exact Kd.S_mono HO_6.out (fun _ hk => ⟨hk.1.1, ⟨hk.1.2, hk.2⟩⟩)⟩, ⟨by (try simp only [hl7_1]); (with_reducible repeat (first | apply rA_ | apply rB_ | apply rC_)); exact HO_7.out⟩, ⟨by (try simp only [hl7_1]); (with_reducible repeat (first | apply rA_ | apply rB_ | apply rC_)); exact HO402.out⟩, ⟨by (try simp only [hl7_1]); (with_reducible repeat (first | apply rA_ | apply rB_ | apply rC_)); exact HO405.out⟩, ⟨by (try simp only [hl7_1]); (with_reducible repeat (first | refine blk_drewN ?_ _ | refine blk_drew ?_ | refine blk_alloc ?_ _)); exact BK368.out⟩, ⟨by repeat (first | (with_reducible first | exact HB.out | apply bA_ | apply bB_ | apply bC_ | refine below_set ?_ GE368.out) | exact HB.out)⟩⟩
                     ·rw [if_neg c56] at H
                      exact absurd H (by simp)
                    ·rw [if_neg c55] at H
                     exact absurd H (by simp)
                  ·rw [if_neg c46] at H
                   exact absurd H (by simp)
                 ·rw [if_neg c45] at H
                  exact absurd H (by simp)
                ·rw [if_neg c44] at H
                 exact absurd H (by simp)
               ·rw [if_neg c43] at H
                exact absurd H (by simp)
             ·rw [if_neg c31] at H
              exact absurd H (by simp)
            ·rw [if_neg c30] at H
             exact absurd H (by simp)
           ·rw [if_neg c29] at H
            exact absurd H (by simp)
          ·rw [if_neg c28] at H
           exact absurd H (by simp)
         ·rw [if_neg c27] at H
          exact absurd H (by simp)
        ·rw [if_neg c25] at H
         have c25b0 : decide (0 < (x8_1.length : Int)) = false := decide_eq_false c25
         have c25b1 : decide (0 < x8_1.length) = false := decide_eq_false (by omega)
         clear c25
         obtain rfl := Option.some.inj H
         obtain ⟨Ao66, co66, eo66⟩ := Kd.R_slice HO_8.out
         subst eo66
         go_wp2
         repeat (go_quiet (fail); try go_wp2)
         go_ret
         exact ⟨_, by first | rfl | (simp [errW_none, errW_some] <;> rfl) | (simp [*, errW_none, errW_some] <;> rfl), by (with_reducible repeat (first | apply rA_ | apply rB_ | apply rC_)); exact Kd.R_mono HO_5.out (fun _ hk => trivial), by repeat (first | (with_reducible first | exact HB.out | apply bA_ | apply bB_ | apply bC_ | refine below_set ?_ GE368.out) | exact HB.out)⟩
     ·rw [if_neg c9] at H
      exact absurd H (by simp)
    ·rw [if_neg c8] at H
     exact absurd H (by simp)
   ·rw [if_neg c7] at H
    exact absurd H (by simp)
  ·rw [if_neg c6] at H
   exact absurd H (by simp)
 ·replace c4 := Bool.eq_false_iff.mpr c4
  subst c4
  have H1 : (some ([] : List Int)) = some r := by rw [if_neg (show ¬ (false = true) by decide)] at H; exact H
  clear H
  have H := H1
  clear H1
  obtain rfl := Option.some.inj H
  go_enter Tryd.func44, Tryd.ntmps44
  go_wp2_with (first | ((with_reducible refine gate_dst (N := 2) rfl ?_); refine box_event ?hg (N := 2) ?hd (cs := #[.int .i64 a0_0, .slice A0_1 l0_1.length c0_1]) (t := 24) ?hr ?_; (case hd => rfl); (case hg => rfl); (case hr => first | (go_simp; done) | (go_simp; rfl)); intro gb368 hg w67 hbox hb; have n0_ := aM_ (below_step (by repeat (first | (with_reducible first | exact HB.out | apply bA_ | apply bB_ | apply bC_) | exact HB.out)) hb); have n1_ := aM_ (hbox); have n2_ := aM_ ((by rw [hg]; exact (below_size (by repeat (first | (with_reducible first | exact HB.out | apply bA_ | apply bB_ | apply bC_) | exact HB.out))) : w.heap.size ≤ gb368)); have n3_ := aM_ ((by rw [hg]; exact (below_size (by repeat (first | (with_reducible first | exact HB.out | apply bA_ | apply bB_ | apply bC_) | exact HB.out))) : w.heap.size ≤ gb368)); clear HB; have HB := n0_; have BK368 := n1_; have GW368 := n2_; have GE368 := n3_; clear n0_ n1_ n2_ n3_; clear hb hbox hg; have hcz68_0 : w67.cell? ⟨gb368, 0, none⟩ = some (.int .i64 a0_0) := (blk_cell BK368.out 0).trans rfl; have hcz68_1 : w67.cell? ⟨gb368, 1, none⟩ = some (.slice A0_1 l0_1.length c0_1) := (blk_cell BK368.out 1).trans rfl; have hfz68_0 := blk_frozen BK368.out 0; have hfz68_1 := blk_frozen BK368.out 1) | (go_at_call 16; (with_reducible refine (r4_Node.calls k a0_0 _ _ l0_1 a1 false _ ?side1 ?side2 A3.out).mono ?_); (case side1 => repeat (first | exact (Kd.C_below HR0_1.out HB.out) | (with_reducible refine Kd.C_alloc ?_ _) | (with_reducible refine Kd.C_drewN ?_ _) | (with_reducible refine Kd.C_drew ?_))); (case side2 => exact HC0_1.out); rintro e w69 ⟨rfl, hb⟩; have n0_ := aM_ (blk_below (g := gb368) (o := .cells #[.int .i64 a0_0, .slice A0_1 l0_1.length c0_1] 24 (0, 0)) (by (with_reducible repeat (first | refine blk_drewN ?_ _ | refine blk_drew ?_ | refine blk_alloc ?_ _)); exact BK368.out) hb); have n1_ := aM_ (below_step (by repeat (first | (with_reducible first | exact HB.out | apply bA_ | apply bB_ | apply bC_ | refine below_set ?_ GE368.out) | exact HB.out)) hb); clear BK368; clear HB; have BK368 := n0_; have HB := n1_; clear n0_ n1_; (try clear hb); (try clear hb2); (try clear hk); (try clear hi)))
  repeat (go_quiet (first | ((with_reducible refine gate_dst (N := 2) rfl ?_); refine box_event ?hg (N := 2) ?hd (cs := #[.int .i64 a0_0, .slice A0_1 l0_1.length c0_1]) (t := 24) ?hr ?_; (case hd => rfl); (case hg => rfl); (case hr => first | (go_simp; done) | (go_simp; rfl)); intro gb368 hg w67 hbox hb; have n0_ := aM_ (below_step (by repeat (first | (with_reducible first | exact HB.out | apply bA_ | apply bB_ | apply bC_) | exact HB.out)) hb); have n1_ := aM_ (hbox); have n2_ := aM_ ((by rw [hg]; exact (below_size (by repeat (first | (with_reducible first | exact HB.out | apply bA_ | apply bB_ | apply bC_) | exact HB.out))) : w.heap.size ≤ gb368)); have n3_ := aM_ ((by rw [hg]; exact (below_size (by repeat (first | (with_reducible first | exact HB.out | apply bA_ | apply bB_ | apply bC_) | exact HB.out))) : w.heap.size ≤ gb368)); clear HB; have HB := n0_; have BK368 := n1_; have GW368 := n2_; have GE368 := n3_; clear n0_ n1_ n2_ n3_; clear hb hbox hg; have hcz68_0 : w67.cell? ⟨gb368, 0, none⟩ = some (.int .i64 a0_0) := (blk_cell BK368.out 0).trans rfl; have hcz68_1 : w67.cell? ⟨gb368, 1, none⟩ = some (.slice A0_1 l0_1.length c0_1) := (blk_cell BK368.out 1).trans rfl; have hfz68_0 := blk_frozen BK368.out 0; have hfz68_1 := blk_frozen BK368.out 1) | (go_at_call 16; (with_reducible refine (r4_Node.calls k a0_0 _ _ l0_1 a1 false _ ?side1 ?side2 A3.out).mono ?_); (case side1 => repeat (first | exact (Kd.C_below HR0_1.out HB.out) | (with_reducible refine Kd.C_alloc ?_ _) | (with_reducible refine Kd.C_drewN ?_ _) | (with_reducible refine Kd.C_drew ?_))); (case side2 => exact HC0_1.out); rintro e w69 ⟨rfl, hb⟩; have n0_ := aM_ (blk_below (g := gb368) (o := .cells #[.int .i64 a0_0, .slice A0_1 l0_1.length c0_1] 24 (0, 0)) (by (with_reducible repeat (first | refine blk_drewN ?_ _ | refine blk_drew ?_ | refine blk_alloc ?_ _)); exact BK368.out) hb); have n1_ := aM_ (below_step (by repeat (first | (with_reducible first | exact HB.out | apply bA_ | apply bB_ | apply bC_ | refine below_set ?_ GE368.out) | exact HB.out)) hb); clear BK368; clear HB; have BK368 := n0_; have HB := n1_; clear n0_ n1_; (try clear hb); (try clear hb2); (try clear hk); (try clear hi))); try go_wp2_with (first | ((with_reducible refine gate_dst (N := 2) rfl ?_); refine box_event ?hg (N := 2) ?hd (cs := #[.int .i64 a0_0, .slice A0_1 l0_1.length c0_1]) (t := 24) ?hr ?_; (case hd => rfl); (case hg => rfl); (case hr => first | (go_simp; done) | (go_simp; rfl)); intro gb368 hg w67 hbox hb; have n0_ := aM_ (below_step (by repeat (first | (with_reducible first | exact HB.out | apply bA_ | apply bB_ | apply bC_) | exact HB.out)) hb); have n1_ := aM_ (hbox); have n2_ := aM_ ((by rw [hg]; exact (below_size (by repeat (first | (with_reducible first | exact HB.out | apply bA_ | apply bB_ | apply bC_) | exact HB.out))) : w.heap.size ≤ gb368)); have n3_ := aM_ ((by rw [hg]; exact (below_size (by repeat (first | (with_reducible first | exact HB.out | apply bA_ | apply bB_ | apply bC_) | exact HB.out))) : w.heap.size ≤ gb368)); clear HB; have HB := n0_; have BK368 := n1_; have GW368 := n2_; have GE368 := n3_; clear n0_ n1_ n2_ n3_; clear hb hbox hg; have hcz68_0 : w67.cell? ⟨gb368, 0, none⟩ = some (.int .i64 a0_0) := (blk_cell BK368.out 0).trans rfl; have hcz68_1 : w67.cell? ⟨gb368, 1, none⟩ = some (.slice A0_1 l0_1.length c0_1) := (blk_cell BK368.out 1).trans rfl; have hfz68_0 := blk_frozen BK368.out 0; have hfz68_1 := blk_frozen BK368.out 1) | (go_at_call 16; (with_reducible refine (r4_Node.calls k a0_0 _ _ l0_1 a1 false _ ?side1 ?side2 A3.out).mono ?_); (case side1 => repeat (first | exact (Kd.C_below HR0_1.out HB.out) | (with_reducible refine Kd.C_alloc ?_ _) | (with_reducible refine Kd.C_drewN ?_ _) | (with_reducible refine Kd.C_drew ?_))); (case side2 => exact HC0_1.out); rintro e w69 ⟨rfl, hb⟩; have n0_ := aM_ (blk_below (g := gb368) (o := .cells #[.int .i64 a0_0, .slice A0_1 l0_1.length c0_1] 24 (0, 0)) (by (with_reducible repeat (first | refine blk_drewN ?_ _ | refine blk_drew ?_ | refine blk_alloc ?_ _)); exact BK368.out) hb); have n1_ := aM_ (below_step (by repeat (first | (with_reducible first | exact HB.out | apply bA_ | apply bB_ | apply bC_ | refine below_set ?_ GE368.out) | exact HB.out)) hb); clear BK368; clear HB; have BK368 := n0_; have HB := n1_; clear n0_ n1_; (try clear hb); (try clear hb2); (try clear hk); (try clear hi))))
  go_ret
  exact ⟨_, by first | rfl | (simp [errW_none, errW_some] <;> rfl) | (simp [*, errW_none, errW_some] <;> rfl), by first | exact Kd.R_nil _ _ _ _ _ | exact Kd.N_nil _ _ _ _ _ | exact Kd.V_nil _ _ _ _ _ | exact Kd.Q_nil _ _ _ _ _ | exact Kd.S_nil _ _ _ _ _, by repeat (first | (with_reducible first | exact HB.out | apply bA_ | apply bB_ | apply bC_ | refine below_set ?_ GE368.out) | exact HB.out)⟩
end Go.Proofs.YtfgbkklhjocmjaaDoor.Xq
namespace Go.Proofs.YtfgbkklhjocmjaaDoor.Xq
open Go.RowKit Go.Shelf Go.Proofs.YtfgbkklhjocmjaaDoorW.PrintWords Go.Proofs.YtfgbkklhjocmjaaDoorW.PrintLast Go.Proofs.YtfgbkklhjocmjaaDoor.Gv
attribute [local go_sem] Oper.semAt_some
structure LSt (Bs base : Nat) (Pr : Nat → Prop) (p : List Int) (W : World) : Prop where
  hw : ∃ vw, W.heap[Bs]? = some (.cells #[vw] 31) ∧ Kd.R (Kd.int .i64) 3 W base (fun k => ¬ Pr k) vw p
  pr : ∀ k, Pr k → k < W.heap.size ∧ k ≠ Bs
section
variable {Bs base : Nat} {Pr Pr' : Nat → Prop} {p : List Int} {W W' : World}
theorem LSt.own (h : LSt Bs base Pr p W) {row : Option Nat} (hg : W.grownBy W' row) (hr : ∀ r, row = some r → ∃ o : Obj, W.heap[r]? = some o ∧ o.isCells = false) : LSt Bs base Pr p W' := by
  obtain ⟨vw, h1, h2⟩ := h.hw
  exact ⟨⟨vw, (hg.block _ (blk_lt h1) (cells_ne hr h1)).trans h1, Kd.R_grown2 h2 rfl hg (fun k e => by
    obtain ⟨o, ho, hc⟩ := hr k e
    exact own_ne h2 ho hc)⟩, fun k hk => ⟨Nat.lt_of_lt_of_le (h.pr k hk).1 hg.size, (h.pr k hk).2⟩⟩
end
end Go.Proofs.YtfgbkklhjocmjaaDoor.Xq
namespace Go.Proofs.YtfgbkklhjocmjaaDoor.Xq
open Go.RowKit Go.Shelf Go.Proofs.YtfgbkklhjocmjaaDoorW.PrintWords Go.Proofs.YtfgbkklhjocmjaaDoorW.PrintLast Go.Proofs.YtfgbkklhjocmjaaDoor.Gv
def visT (l : List S53) : Nat → Int → List Bool × List Int → List Bool × List Int
  | 0, _, s => s
  | k + 1, v, s => (((succL l v).foldl (fun s w => if s.1.getD w.toNat true = true then s else visT l k w s) (s.1.set v.toNat true, s.2)).1, ((succL l v).foldl (fun s w => if s.1.getD w.toNat true = true then s else visT l k w s) (s.1.set v.toNat true, s.2)).2 ++ [v])
def vstep (l : List S53) (k : Nat) (s : List Bool × List Int) (w : Int) : List Bool × List Int := if s.1.getD w.toNat true = true then s else visT l k w s
theorem visT_succ (l : List S53) (k : Nat) (v : Int) (s : List Bool × List Int) : visT l (k + 1) v s = (((succL l v).foldl (vstep l k) (s.1.set v.toNat true, s.2)).1, ((succL l v).foldl (vstep l k) (s.1.set v.toNat true, s.2)).2 ++ [v]) := rfl
def cnt (b : List Bool) : Nat := b.countP (fun x => !x)
theorem cnt_set : ∀ {b : List Bool} {i : Nat}, b.getD i true = false → cnt (b.set i true) + 1 = cnt b
  | [], i, h => by simp at h
  | x :: r, 0, h => by
    have : x = false := by simpa using h
    subst this
    simp [cnt]
  | x :: r, i + 1, h => by
    have h2 : r.getD i true = false := by simpa using h
    have := cnt_set h2
    simp only [cnt, List.set_cons_succ, List.countP_cons] at this ⊢
    omega
theorem cnt_pos {b : List Bool} {i : Nat} (h : b.getD i true = false) : 1 ≤ cnt b := by have := cnt_set h; omega
def Keep1 (s s' : List Bool × List Int) : Prop := s'.1.length = s.1.length ∧ cnt s'.1 ≤ cnt s.1 ∧ s'.2.length + cnt s'.1 ≤ s.2.length + cnt s.1
theorem Keep1.refl (s : List Bool × List Int) : Keep1 s s := ⟨rfl, Nat.le_refl _, Nat.le_refl _⟩
theorem Keep1.trans {s t u : List Bool × List Int} (h : Keep1 s t) (k : Keep1 t u) : Keep1 s u := ⟨k.1.trans h.1, Nat.le_trans k.2.1 h.2.1, Nat.le_trans k.2.2 h.2.2⟩
theorem vsteps_keep (l : List S53) (k : Nat) (ih : ∀ v s, s.1.getD v.toNat true = false → Keep1 s (visT l k v s)) : ∀ (xs : List Int) (s : List Bool × List Int), Keep1 s (xs.foldl (vstep l k) s)
  | [], s => Keep1.refl s
  | x :: r, s => by
    rw [List.foldl_cons]
    refine Keep1.trans ?_ (vsteps_keep l k ih r _)
    unfold vstep
    by_cases h : s.1.getD x.toNat true = true
    · rw [if_pos h]; exact Keep1.refl s
    · rw [if_neg h]; exact ih x s (by simpa using h)
theorem visT_keep (l : List S53) : ∀ (k : Nat) (v : Int) (s : List Bool × List Int), s.1.getD v.toNat true = false → Keep1 s (visT l k v s)
  | 0, v, s, h => Keep1.refl s
  | k + 1, v, s, h => by
    have h1 := vsteps_keep l k (visT_keep l k) (succL l v) (s.1.set v.toNat true, s.2)
    have h2 := cnt_set h
    rw [visT_succ]
    generalize (succL l v).foldl (vstep l k) (s.1.set v.toNat true, s.2) = F at h1 ⊢
    obtain ⟨F1, F2⟩ := F
    obtain ⟨a, b, c⟩ := h1
    have a2 : F1.length = (s.1.set v.toNat true).length := a
    have b2 : cnt F1 ≤ cnt (s.1.set v.toNat true) := b
    have c2 : F2.length + cnt F1 ≤ s.2.length + cnt (s.1.set v.toNat true) := c
    refine ⟨by show F1.length = s.1.length; rw [a2]; simp, ?_, ?_⟩
    · show cnt F1 ≤ cnt s.1
      omega
    · show (F2 ++ [v]).length + cnt F1 ≤ s.2.length + cnt s.1
      rw [List.length_append, List.length_singleton]
      omega
structure VS (w0 : World) (n : Int) (A : Option Addr) (c : Nat) (l : List S53) (Bg Bs Bf Bo gs base : Nat) (Pr : Nat → Prop) (seen : List Bool) (out : List Int) (W : World) : Prop where
  hg : W.heap[Bg]? = some (.cells #[.int .i64 n, .slice A l.length c] 24)
  hs : W.heap[Bs]? = some (.cells #[.slice (some ⟨gs, 0, none⟩) seen.length seen.length] 64)
  hc : W.heap[gs]? = some (.cells ((seen.map Value.bool).toArray) 4 (0, 0))
  hf : W.heap[Bf]? = some (.cells #[.func (.func 79) #[] #[.pointer (some ⟨Bs, 0, none⟩), .pointer (some ⟨Bg, 0, none⟩), .pointer (some ⟨Bf, 0, none⟩), .pointer (some ⟨Bo, 0, none⟩)]] 88)
  hw : ∃ vw, W.heap[Bo]? = some (.cells #[vw] 31) ∧ Kd.R (Kd.int .i64) 3 W base (fun k => ¬ Pr k) vw out
  pr : ∀ k, Pr k → k < W.heap.size ∧ k ≠ gs ∧ k ≠ Bo
  bl : Below base w0 W
section
variable {w0 : World} {n : Int} {A : Option Addr} {c : Nat} {l : List S53} {Bg Bs Bf Bo gs base : Nat} {Pr Pr' : Nat → Prop} {seen : List Bool} {out : List Int} {W W' : World}
theorem VS.own (h : VS w0 n A c l Bg Bs Bf Bo gs base Pr seen out W) {row : Option Nat} (hb : base ≤ w0.heap.size) (hg : W.grownBy W' row) (hr : ∀ r, row = some r → base ≤ r ∧ ∃ o : Obj, W.heap[r]? = some o ∧ o.isCells = false) : VS w0 n A c l Bg Bs Bf Bo gs base Pr seen out W' := by
  obtain ⟨vw, h1, h2⟩ := h.hw
  have hr2 := fun r e => (hr r e).2
  refine ⟨(hg.block _ (blk_lt h.hg) (cells_ne hr2 h.hg)).trans h.hg, (hg.block _ (blk_lt h.hs) (cells_ne hr2 h.hs)).trans h.hs, (hg.block _ (blk_lt h.hc) (cells_ne hr2 h.hc)).trans h.hc, (hg.block _ (blk_lt h.hf) (cells_ne hr2 h.hf)).trans h.hf, ⟨vw, (hg.block _ (blk_lt h1) (cells_ne hr2 h1)).trans h1, Kd.R_grown2 h2 rfl hg (fun k e => ?_)⟩, fun k hk => ?_, h.bl.grown hg (Nat.le_trans hb h.bl.size) (fun r e => (hr r e).1)⟩
  · obtain ⟨_, o, ho, hc⟩ := hr k e
    exact own_ne h2 ho hc
  · obtain ⟨p1, p2, p3⟩ := h.pr k hk
    exact ⟨Nat.lt_of_lt_of_le p1 hg.size, p2, p3⟩
theorem VS.below (h : VS w0 n A c l Bg Bs Bf Bo gs base Pr seen out W) (hbs : base ≤ w0.heap.size) (hb : Below W.heap.size W W') (hp : ∀ k, Pr' k → Pr k ∨ (W.heap.size ≤ k ∧ k < W'.heap.size)) : VS w0 n A c l Bg Bs Bf Bo gs base Pr' seen out W' := by
  obtain ⟨vw, h1, h2⟩ := h.hw
  refine ⟨blk_below h.hg hb, blk_below h.hs hb, blk_below h.hc hb, blk_below h.hf hb, ⟨vw, blk_below h1 hb, Kd.R_below (Kd.R_reok rfl h2 (fun k hk hp' => ?_)) hb⟩, fun k hk => ?_, h.bl.trans (hb.mono (Nat.le_trans hbs h.bl.size))⟩
  · rcases hp k hp' with h3 | h3
    · exact h2.1 k hk h3
    · have := Kd.R_lt h2 k hk; omega
  · rcases hp k hk with h3 | h3
    · obtain ⟨p1, p2, p3⟩ := h.pr k h3
      exact ⟨Nat.lt_of_lt_of_le p1 hb.size, p2, p3⟩
    · have := blk_lt h.hc
      have := blk_lt h1
      exact ⟨h3.2, by omega, by omega⟩
theorem VS.prot (h : VS w0 n A c l Bg Bs Bf Bo gs base Pr seen out W) (hp : ∀ k, Pr' k → Pr k ∨ ∃ o : Obj, W.heap[k]? = some o ∧ o.isCells = false) : VS w0 n A c l Bg Bs Bf Bo gs base Pr' seen out W := by
  obtain ⟨vw, h1, h2⟩ := h.hw
  refine ⟨h.hg, h.hs, h.hc, h.hf, ⟨vw, h1, Kd.R_reok rfl h2 (fun k hk hp' => ?_)⟩, fun k hk => ?_, h.bl⟩
  · rcases hp k hp' with h3 | ⟨o, ho, hc⟩
    · exact h2.1 k hk h3
    · exact own_ne h2 ho hc hk.symm
  · rcases hp k hk with h3 | ⟨o, ho, hc⟩
    · exact h.pr k h3
    · refine ⟨blk_lt ho, ?_, ?_⟩
      · intro e; subst e; rw [h.hc] at ho; cases ho; simp [Obj.isCells] at hc
      · intro e; subst e; rw [h1] at ho; cases ho; simp [Obj.isCells] at hc
theorem VS.mark (h : VS w0 n A c l Bg Bs Bf Bo gs base Pr seen out W) (hb : base ≤ gs) (q : Nat) : VS w0 n A c l Bg Bs Bf Bo gs base Pr (seen.set q true) out (W.setCell ⟨gs, q, none⟩ (.bool true)) ∧ (∀ k, Pr k → (W.setCell ⟨gs, q, none⟩ (.bool true)).heap[k]? = W.heap[k]?) ∧ KeepsOthers W (W.setCell ⟨gs, q, none⟩ (.bool true)) := by
  obtain ⟨vw, h1, h2⟩ := h.hw
  have oth : ∀ k, k ≠ gs → (W.setCell ⟨gs, q, none⟩ (.bool true)).heap[k]? = W.heap[k]? := fun k hk => Below.heap_setCell W ⟨gs, q, none⟩ _ k hk
  have n1 : Bg ≠ gs := by intro e; have h3 := h.hg; rw [e, h.hc] at h3; simp at h3
  have n2 : Bs ≠ gs := by intro e; have h3 := h.hs; rw [e, h.hc] at h3; simp at h3
  have n3 : Bf ≠ gs := by intro e; have h3 := h.hf; rw [e, h.hc] at h3; simp at h3
  have n4 : Bo ≠ gs := by intro e; have h3 := h1; rw [e, h.hc] at h3; simp at h3
  refine ⟨⟨(oth _ n1).trans h.hg, by rw [List.length_set]; exact (oth _ n2).trans h.hs, blk_put h.hc q _ (by rw [List.setIfInBounds_toArray, List.map_set]), (oth _ n3).trans h.hf, ⟨vw, (oth _ n4).trans h1, Kd.R_set h2 h.hc (by decide) q _⟩, fun k hk => ?_, h.bl.setCell (p := ⟨gs, q, none⟩) hb _⟩, fun k hk => oth k (h.pr k hk).2.1, ⟨by simp, fun k o hk ho => (oth k (fun e => by rw [e, h.hc] at hk; cases hk; simp [Obj.isCells] at ho)).trans hk⟩⟩
  obtain ⟨p1, p2, p3⟩ := h.pr k hk
  exact ⟨by simpa using p1, p2, p3⟩
theorem VS.app (h : VS w0 n A c l Bg Bs Bf Bo gs base Pr seen out W) (hb1 : base ≤ Bo) (hb2 : base ≤ w0.heap.size) {vw v1 : Value} {x : Int} {w3 : World} (hvw : W.heap[Bo]? = some (.cells #[vw] 31)) (hr : Kd.R (Kd.int .i64) 3 W base (fun k => ¬ Pr k) vw out)
    (hF : Kd.R (Kd.int .i64) 3 w3 base (fun k => ¬ Pr k) v1 (out ++ [x])) (hg : W.grownBy w3 vw.ownBlock) :
    VS w0 n A c l Bg Bs Bf Bo gs base Pr seen (out ++ [x]) (w3.setCell ⟨Bo, 0, none⟩ v1) ∧ (∀ k, Pr k → (w3.setCell ⟨Bo, 0, none⟩ v1).heap[k]? = W.heap[k]?) ∧ KeepsOthers W (w3.setCell ⟨Bo, 0, none⟩ v1) := by
  have oth : ∀ k, k < W.heap.size → k ≠ Bo → some k ≠ vw.ownBlock → (w3.setCell ⟨Bo, 0, none⟩ v1).heap[k]? = W.heap[k]? := fun k hk h2 h3 =>
    (Below.heap_setCell w3 ⟨Bo, 0, none⟩ v1 k h2).trans (hg.block k hk h3)
  have hw3 : w3.heap[Bo]? = some (.cells #[vw] 31) := (hg.block Bo (blk_lt hvw) (Kd.R_ne hr hvw (by decide))).trans hvw
  have n1 : Bg ≠ Bo := by intro e; have h3 := h.hg; rw [e, hvw] at h3; simp at h3
  have n2 : Bs ≠ Bo := by intro e; have h3 := h.hs; rw [e, hvw] at h3; simp at h3
  have n3 : Bf ≠ Bo := by intro e; have h3 := h.hf; rw [e, hvw] at h3; simp at h3
  have n4 : gs ≠ Bo := by intro e; have h3 := h.hc; rw [e, hvw] at h3; simp at h3
  refine ⟨⟨(oth _ (blk_lt h.hg) n1 (Kd.R_ne hr h.hg (by decide))).trans h.hg, (oth _ (blk_lt h.hs) n2 (Kd.R_ne hr h.hs (by decide))).trans h.hs, (oth _ (blk_lt h.hc) n4 (Kd.R_ne hr h.hc (by decide))).trans h.hc, (oth _ (blk_lt h.hf) n3 (Kd.R_ne hr h.hf (by decide))).trans h.hf, ⟨v1, blk_put hw3 0 v1 rfl, Kd.R_set hF hw3 (by decide) 0 v1⟩, fun k hk => ⟨?_, (h.pr k hk).2⟩, (h.bl.grown hg (Nat.le_trans hb2 h.bl.size) (fun k hk => Kd.R_base hr k hk)).setCell (p := ⟨Bo, 0, none⟩) hb1 v1⟩, fun k hk => oth k (h.pr k hk).1 (h.pr k hk).2.2 (fun e => hr.1 k e.symm hk), ⟨?_, fun k o hk ho => (oth k (blk_lt hk) ?_ ?_).trans hk⟩⟩
  · have := hg.size
    have := (h.pr k hk).1
    simp
    omega
  · have := hg.size
    simp
    omega
  · intro e; subst e; rw [hvw] at hk; cases hk; simp [Obj.isCells] at ho
  · exact own_ne hr hk ho
end
end Go.Proofs.YtfgbkklhjocmjaaDoor.Xq
namespace Go.Proofs.YtfgbkklhjocmjaaDoor.Xq
open Go.RowKit Go.Shelf Go.Proofs.YtfgbkklhjocmjaaDoorW.PrintWords Go.Proofs.YtfgbkklhjocmjaaDoorW.PrintLast Go.Proofs.YtfgbkklhjocmjaaDoor.Gv
attribute [local go_sem] Oper.semAt_some
set_option maxRecDepth 100000 in
set_option maxHeartbeats 4000000 in
theorem visit_calls (w0 : World) (n : Nat) (A : Option Addr) (c : Nat) (l : List S53) (Bg Bs Bf Bo gs base : Nat) (hv : Valid n l) (hC0 : Kd.C k53 w0 A l.length l) (hbase : base = w0.heap.size) (hb1 : base ≤ gs) (hb2 : base ≤ Bo) : ∀ (k : Nat) (v : Nat) (Pr : Nat → Prop) (seen : List Bool) (out : List Int) (W : World),
    cnt seen ≤ k → v < n → seen.getD v true = false → seen.length = n → out.length + cnt seen ≤ 100000 → VS w0 n A c l Bg Bs Bf Bo gs base Pr seen out W →
    Calls Tryd.prog 79 #[.int .i64 v, .pointer (some ⟨Bs, 0, none⟩), .pointer (some ⟨Bg, 0, none⟩), .pointer (some ⟨Bf, 0, none⟩), .pointer (some ⟨Bo, 0, none⟩)] W fun e W' => e = .returned (.tuple #[]) ∧
      VS w0 n A c l Bg Bs Bf Bo gs base Pr (visT l k v (seen, out)).1 (visT l k v (seen, out)).2 W' ∧ (∀ j, Pr j → W'.heap[j]? = W.heap[j]?) ∧ KeepsOthers W W' := by
  intro k
  induction k with
  | zero =>
    intro v Pr seen out W h1 h2 h3
    have := cnt_pos h3
    omega
  | succ k ih =>
  intro v Pr seen out W hcnt hvn hsv hlen hol hVS
  have IH := As2.mk ih
  have HV := As2.mk hv
  have C0 := As2.mk hC0
  have S0 := As2.mk hVS
  have HB := As2.mk hbase
  have hn1 : (n : Int) ≤ 8192 := hv.n1
  have hcs : W.cell? ⟨Bs, 0, none⟩ = some (.slice (some ⟨gs, 0, none⟩) seen.length seen.length) := (blk_cell hVS.hs 0).trans rfl
  have hvl : v < seen.length := by rw [hlen]; exact hvn
  have hvi : (v : Int) < (seen.length : Int) := by omega
  have hcv : W.cell? ⟨gs, v, none⟩ = some (.bool false) := by
    rw [blk_cell hVS.hc]
    have : seen[v] = false := by simpa [List.getD, hvl] using hsv
    simp [hvl, this]
  have hfv : W.frozen? ⟨gs, v, none⟩ = false := blk_frozen hVS.hc v
  have hg0 : W.cell? ⟨Bg, 0, none⟩ = some (.int .i64 n) := (blk_cell hVS.hg 0).trans rfl
  have hg1 : W.cell? ⟨Bg, 1, none⟩ = some (.slice A l.length c) := (blk_cell hVS.hg 1).trans rfl
  have ngg : Bg ≠ gs := by intro e; have h3 := hVS.hg; rw [e, hVS.hc] at h3; simp at h3
  have ngg2 : gs ≠ Bg := fun e => ngg e.symm
  have HC := As2.mk (cnt_set hsv)
  have HL := As2.mk hlen
  have HK := As2.mk (And.intro hcnt hol)
  have BB := As2.mk (And.intro hb1 hb2)
  have HVN := As2.mk hvn
  clear ih hv hC0 hVS hbase hcnt hol hlen hsv hb1 hb2 hvn hvl
  refine (callsIn_wide (n := 3)).1 ?_
  refine callsIn_of_wp_marks (F := Fence.wide) (n := 3) Tryd.func79 rfl trivial ?_ rfl
  simp only [Tryd.ntmps79, List.size_toArray, List.length_cons, List.length_nil, Nat.reduceAdd, Nat.reduceSub, Array.replicate_succ, Array.replicate_zero, List.push_toArray, List.append_toArray, List.nil_append, List.cons_append]
  gi_wp2_with (refine ⟨trivial, ?_⟩; gi_at_call 73; obtain ⟨W3, hW3⟩ : ∃ W3, W3 = W.setCell ⟨gs, v, none⟩ (.bool true) := ⟨_, rfl⟩; rw [← hW3]; have MK := S0.out.mark BB.out.1 v; rw [← hW3] at MK; have M3 := As2.mk MK; clear MK; have sz3 : W3.heap.size = W.heap.size := (by subst hW3; simp); clear hW3 hcs hcv hfv hg0 hg1; refine (callsIn_wide.2 (next_calls (n : Int) (v : Int) A c l W3 (Kd.C_below C0.out (by rw [← HB.out]; exact M3.out.1.bl)) (by have := HV.out.len; omega) HV.out.rising HV.out.ends)).mono ?_; rintro e W4 ⟨Ba, Bg2, Bv, i, rfl, hna, hrd, hb4, hge, hbk⟩; have NA := As2.mk hna.out; have RD := As2.mk hrd; have B4 := As2.mk hb4; have GE := As2.mk hge; have BK := As2.mk hbk.out; clear hna hrd hb4 hge hbk)
  have SZ := As2.mk sz3
  clear sz3
  have LT4 := As2.mk (show W3.heap.size ≤ Ba ∧ W3.heap.size ≤ Bg2 ∧ W3.heap.size ≤ Bv ∧ Ba < W4.heap.size ∧ Bg2 < W4.heap.size ∧ Bv < W4.heap.size from ⟨GE.out.1, GE.out.2.1, GE.out.2.2, blk_lt BK.out.1, blk_lt BK.out.2.1, blk_lt BK.out.2.2⟩)
  have L4 := As2.mk (show VS w0 n A c l Bg Bs Bf Bo gs base (fun k => Pr k ∨ k = Ba ∨ k = Bg2 ∨ k = Bv) (seen.set v true) out W4 from M3.out.1.below (by rw [HB.out]; exact Nat.le_refl _) B4.out (fun k hk => by
    rcases hk with h | h | h | h
    · exact .inl h
    · subst h; exact .inr ⟨LT4.out.1, LT4.out.2.2.2.1⟩
    · subst h; exact .inr ⟨LT4.out.2.1, LT4.out.2.2.2.2.1⟩
    · subst h; exact .inr ⟨LT4.out.2.2.1, LT4.out.2.2.2.2.2⟩))
  have hbg := As2.mk (show base ≤ W4.heap.size by have := L4.out.bl.size; rw [← HB.out] at this; exact this)
  have hw4 := As2.mk (show W.heap.size ≤ W4.heap.size by have := B4.out.size; have := SZ.out; omega)
  have P4 := As2.mk (show ∀ j, Pr j → W4.heap[j]? = W.heap[j]? from fun j hj => (B4.out.block j (M3.out.1.pr j hj).1).trans (M3.out.2.1 j hj))
  have O4 := As2.mk (show ∀ (j : Nat) (o : Obj), W.heap[j]? = some o → o.isCells = false → W4.heap[j]? = some o from fun j o hj ho => blk_below (M3.out.2.2.2 j o hj ho) B4.out)
  have PY := As2.mk (show ∀ y ∈ succL l (v : Int), 0 ≤ y ∧ y < (n : Int) by
    intro y hy
    unfold succL at hy
    obtain ⟨x, hx, rfl⟩ := List.mem_map.1 hy
    have := within_iff.1 (HV.out.ins x (List.mem_filter.1 hx).1)
    exact ⟨this.2.2.1, this.2.2.2⟩)
  have hvni : (v : Int) < (n : Int) := by have := HVN.out; omega
  rename_i K1 hK1
  refine wpIn_rangeFunc_ownG (F := Fence.wide) (n := 3) rfl (by omega) (gf := 94) (lb := #[.pointer (some ⟨Ba, 0, none⟩), .pointer (some ⟨Bg2, 0, none⟩), .pointer (some ⟨Bv, 0, none⟩)]) rfl trivial (enters_of Tryd.func94 (by kernel_rfl) rfl)
    (next_stopsP 2 (by omega) Ba Bg2 Bv A c l (v : Int) i HV.out.rising NA.out (fun y => 0 ≤ y ∧ y < (n : Int)) ⟨(v : Int), Int.natCast_nonneg _, hvni⟩ PY.out W4 RD.out) nextK_t nextK_b (Below.refl _ _) (fun _ => rfl)
    (fun (pre : List {y : Int // 0 ≤ y ∧ y < (n : Int)}) X => VS w0 n A c l Bg Bs Bf Bo gs base (fun k => Pr k ∨ k = Ba ∨ k = Bg2 ∨ k = Bv) ((pre.map (·.1)).foldl (vstep l k) (seen.set v true, out)).1 ((pre.map (·.1)).foldl (vstep l k) (seen.set v true, out)).2 X ∧ (∀ j, Pr j → X.heap[j]? = W.heap[j]?) ∧ (∀ (j : Nat) (o : Obj), W.heap[j]? = some o → o.isCells = false → X.heap[j]? = some o) ∧ NextRd Ba Bg2 Bv A c l (v : Int) i X)
    (fun _ _ _ => False) ?hI (fun _ _ _ _ _ hs _ _ => hs) ⟨L4.out, P4.out, O4.out, RD.out⟩
    (fun y => { tmps := #[Value.int .i64 ↑v, Value.pointer (some ⟨Bs, 0, none⟩), Value.pointer (some ⟨Bg, 0, none⟩), Value.pointer (some ⟨Bf, 0, none⟩), Value.pointer (some ⟨Bo, 0, none⟩), undef, Value.int .i64 y.1, Value.slice (some ⟨gs, 0, none⟩) seen.length seen.length, Value.int .i64 ↑v, Value.pointer (some ⟨gs, v, none⟩), Value.agg #[Value.int .i64 ↑n, Value.slice A l.length c], Value.int .i64 ↑v, Value.func (Fn.func 94) #[] #[Value.pointer (some ⟨Ba, 0, none⟩), Value.pointer (some ⟨Bg2, 0, none⟩), Value.pointer (some ⟨Bv, 0, none⟩)], Value.int .i64 y.1, undef, undef, undef, undef, undef, undef, undef, undef, undef, undef, undef, undef], defers := [] }) ?assign ?body ?done ?stop
  case hI =>
    rintro pre X Y row ⟨h1, h2, h3, h4⟩ hg hr
    have lt : ∀ k0, k0 < W4.heap.size → some k0 ≠ row := fun k0 hk0 e => by
      have := (hr k0 e.symm).1
      omega
    exact ⟨h1.own (by rw [HB.out]; exact Nat.le_refl _) hg (fun r e => ⟨Nat.le_trans hbg.out (hr r e).1, (hr r e).2⟩), fun j hj => (hg.block j (by have := (h1.pr j (.inl hj)).1; exact this) (lt j (by have := (S0.out.pr j hj).1; have := hw4.out; omega))).trans (h2 j hj), fun j o hj ho => (hg.block j (blk_lt (h3 j o hj ho)) (lt j (by have := blk_lt hj; have := hw4.out; omega))).trans (h3 j o hj ho), next_own (β := Unit) Ba Bg2 Bv A c l (v : Int) i () X Y row h4 hg (fun r e => (hr r e).2)⟩
  case assign =>
    intro lp y W K hK
    gi_wp2
    exact hK
  case body =>
    rintro lp pre ⟨y, hy0, hy1⟩ W5 ⟨h1, h2, h3, h4⟩ hpl
    obtain ⟨yn, rfl⟩ := Int.eq_ofNat_of_zero_le hy0
    clear hpl
    have ST := As2.mk (show ((pre ++ [(⟨(yn : Int), hy0, hy1⟩ : {y : Int // 0 ≤ y ∧ y < (n : Int)})]).map (·.1)).foldl (vstep l k) (seen.set v true, out) = vstep l k ((pre.map (·.1)).foldl (vstep l k) (seen.set v true, out)) (yn : Int) by rw [List.map_append, List.foldl_append]; rfl)
    have KP := As2.mk (vsteps_keep l k (visT_keep l k) (pre.map (·.1)) (seen.set v true, out))
    generalize ((pre.map (·.1)).foldl (vstep l k) (seen.set v true, out)) = sj at h1 ST KP
    obtain ⟨bj, oj⟩ := sj
    have kl : bj.length = n := by have := KP.out.1; simp at this; rw [this]; exact HL.out
    have kc : cnt bj ≤ k := by have h1 : cnt bj ≤ cnt (seen.set v true) := KP.out.2.1; have := HC.out; have := HK.out.1; omega
    have ko : oj.length + cnt bj ≤ 100000 := by have h1 : oj.length + cnt bj ≤ out.length + cnt (seen.set v true) := KP.out.2.2; have := HC.out; have := HK.out.2; omega
    have KK := As2.mk (And.intro kl (And.intro kc ko))
    have hyl : yn < bj.length := by rw [kl]; omega
    have hyi : (yn : Int) < (bj.length : Int) := by omega
    have cs : W5.cell? ⟨Bs, 0, none⟩ = some (.slice (some ⟨gs, 0, none⟩) bj.length bj.length) := (blk_cell h1.hs 0).trans rfl
    have cf : W5.cell? ⟨Bf, 0, none⟩ = some (.func (.func 79) #[] #[.pointer (some ⟨Bs, 0, none⟩), .pointer (some ⟨Bg, 0, none⟩), .pointer (some ⟨Bf, 0, none⟩), .pointer (some ⟨Bo, 0, none⟩)]) := (blk_cell h1.hf 0).trans rfl
    have cy : W5.cell? ⟨gs, yn, none⟩ = some (.bool bj[yn]) := by rw [blk_cell h1.hc]; simp [hyl]
    have hgd : bj.getD yn true = bj[yn] := by simp [List.getD, hyl]
    have HH := As2.mk (And.intro h1 (And.intro h2 (And.intro h3 h4)))
    clear h1 h2 h3 h4 kl kc ko
    generalize hbz : bj[yn] = bz at cy hgd
    have HGD := As2.mk hgd
    clear hgd hbz
    cases bz with
    | true =>
      gi_wp2_with fail
      have EBs : vstep l k (bj, oj) (yn : Int) = (bj, oj) := by
        unfold vstep
        rw [if_pos (by rw [Int.toNat_natCast]; exact HGD.out)]
      refine ⟨⟨Nat.le_refl _, fun _ _ _ h _ => h⟩, fun h => h, ?_⟩
      show VS w0 n A c l Bg Bs Bf Bo gs base _ (((pre ++ [(⟨(yn : Int), hy0, hy1⟩ : {y : Int // 0 ≤ y ∧ y < (n : Int)})]).map (·.1)).foldl (vstep l k) (seen.set v true, out)).1 (((pre ++ [(⟨(yn : Int), hy0, hy1⟩ : {y : Int // 0 ≤ y ∧ y < (n : Int)})]).map (·.1)).foldl (vstep l k) (seen.set v true, out)).2 W5 ∧ _
      rw [ST.out, EBs]
      exact HH.out
    | false =>
      gi_wp2_with (refine ⟨trivial, ?_⟩; gi_at_call 79; refine (CallsIn.inRound lp (callsIn_wide.2 (IH.out yn (fun k => Pr k ∨ k = Ba ∨ k = Bg2 ∨ k = Bv) bj oj W5 KK.out.2.1 (by omega) HGD.out KK.out.1 KK.out.2.2 HH.out.1))).mono ?_; rintro e w' ⟨rfl, hs, hp, hko⟩; have S' := As2.mk hs; have P' := As2.mk hp; have KO := As2.mk hko; clear hs hp hko)
      have EBs : vstep l k (bj, oj) (yn : Int) = visT l k (yn : Int) (bj, oj) := by
        unfold vstep
        rw [if_neg (by rw [Int.toNat_natCast, HGD.out]; simp)]
      have nr5 : NextRd Ba Bg2 Bv A c l (v : Int) i W5 → NextRd Ba Bg2 Bv A c l (v : Int) i w' := fun h => ⟨(World.cell?_of_block (P'.out Ba (.inr (.inl rfl)))).trans h.ca, (World.cell?_of_block (P'.out Bg2 (.inr (.inr (.inl rfl))))).trans h.cg, (World.cell?_of_block (P'.out Bv (.inr (.inr (.inr rfl))))).trans h.cv, Kd.C_below C0.out (by rw [← HB.out]; exact S'.out.bl)⟩
      refine ⟨KO.out.from _, nr5, ?_⟩
      show VS w0 n A c l Bg Bs Bf Bo gs base _ (((pre ++ [(⟨(yn : Int), hy0, hy1⟩ : {y : Int // 0 ≤ y ∧ y < (n : Int)})]).map (·.1)).foldl (vstep l k) (seen.set v true, out)).1 (((pre ++ [(⟨(yn : Int), hy0, hy1⟩ : {y : Int // 0 ≤ y ∧ y < (n : Int)})]).map (·.1)).foldl (vstep l k) (seen.set v true, out)).2 w' ∧ _
      rw [ST.out, EBs]
      exact ⟨S'.out, fun j hj => (P'.out j (.inl hj)).trans (HH.out.2.1 j hj), fun j o hj ho => KO.out.2 j o (HH.out.2.2.1 j o hj ho) ho, nr5 HH.out.2.2.2⟩
  case done =>
    rintro D ys W5 hD hys ⟨h1, h2, h3, h4⟩ hKD
    have hys2 : ys.map (·.1) = succL l (v : Int) := hys
    rw [hys2] at h1
    refine (show K1 _ _ from hK1 _ _ ?_)
    have KP := As2.mk (vsteps_keep l k (visT_keep l k) (succL l (v : Int)) (seen.set v true, out))
    obtain ⟨FL, hFL⟩ : ∃ FL, FL = (succL l (v : Int)).foldl (vstep l k) (seen.set v true, out) := ⟨_, rfl⟩
    rw [← hFL] at h1 KP
    have EF := As2.mk (show visT l (k + 1) (v : Int) (seen, out) = (FL.1, FL.2 ++ [(v : Int)]) by rw [visT_succ, Int.toNat_natCast, ← hFL])
    clear hFL
    obtain ⟨bj, oj⟩ := FL
    have kc : cnt bj ≤ k := by have h1 : cnt bj ≤ cnt (seen.set v true) := KP.out.2.1; have := HC.out; have := HK.out.1; omega
    have ko : oj.length + cnt bj ≤ 100000 := by have h1 : oj.length + cnt bj ≤ out.length + cnt (seen.set v true) := KP.out.2.2; have := HC.out; have := HK.out.2; omega
    have KK := As2.mk (And.intro kc ko)
    obtain ⟨vw, hw1, hw2⟩ := h1.hw
    obtain ⟨Ap, cp, hvp, hcp, _⟩ := Kd.R_reads hw2
    subst hvp
    have HW1 := As2.mk hw1
    have HW2 := As2.mk hw2
    have co : W5.cell? ⟨Bo, 0, none⟩ = some (.slice Ap oj.length cp) := (blk_cell hw1 0).trans rfl
    have lt2 := blk_lt hw1
    have HH := As2.mk (And.intro h1 (And.intro h2 (And.intro h3 h4)))
    have HKD := As2.mk hKD
    have HD := As2.mk hD
    clear h1 h2 h3 h4 hw1 hw2 kc ko hKD hD hys hys2 hK1 K1
    refine region_w ?hno ?hnd ?_
    case hno => rintro ⟨_, _, h, _⟩; cases h
    case hnd => kernel_rfl
    go_wp2_with (at_builtin; ((change wpList _ _ _ _ _ (World.alloc W5 (.cells #[.int .i64 v] 3))); go_must (refine Kd.R_append (Kd.int .i64) (w0 := w0) base rfl (.tmp 22) (.tmp 24) 31 3 (.int .i64 0) 8 rfl Tryd.underlying31 infoI3 rfl (by decide) (by omega) (.slice Ap oj.length cp) oj (v : Int) [.int .i64 v] (fun k => ¬ (Pr k ∨ k = Ba ∨ k = Bg2 ∨ k = Bv)) (fun _ => False) ?a0 ?aX ?aP (fun _ hk => hk.elim) ?aF ?aO ?aB ?aS ?aL ?_); (case a0 => rfl); (case aX => go_must (first | exact rfl | exact congrArg (fun z => Value.slice (some ⟨z, 0, none⟩) 1 1) (by simp))); (case aP => exact rfl); (case aB => exact HH.out.1.bl); (case aF => intro k hk hp; have := (HH.out.1.pr k hp).1; omega); (case aO => exact HW2.out); (case aS => have := HH.out.1.bl.size; rw [← HB.out] at this; exact this); (case aL => have := KK.out.2; omega); intro v1 w3 hF hb hg hat; obtain ⟨A1, c1, hv1, hc1, _⟩ := Kd.R_reads hF; subst hv1; have F := As2.mk hF; have GR := As2.mk hg; have gw3 : w3.heap[Bo]? = some (.cells #[.slice Ap oj.length cp] 31) := (hg.block Bo (blk_lt HW1.out) (Kd.R_ne HW2.out HW1.out (by decide))).trans HW1.out; have k3 : w3.cell? ⟨Bo, 0, none⟩ = some (.slice Ap oj.length cp) := (blk_cell gw3 0).trans rfl; have f3 := blk_frozen gw3 0; clear hF hb hg hat gw3))
    obtain ⟨E1, E2, E3⟩ := HH.out.1.app BB.out.2 (by rw [HB.out]; exact Nat.le_refl _) HW1.out HW2.out F.out GR.out
    have el : (oj ++ [(v : Int)]).length = oj.length + 1 := by simp
    rw [el] at E1 E2 E3
    have hdw : W.heap.size ≤ D := Nat.le_trans hw4.out HD.out
    refine leaves_marks [D] _ (by simp) (fun D' hD' => by obtain rfl : D' = D := (by simpa using hD'); exact E3.2 _ _ HKD.out rfl) ?_
    intro W' hW'
    refine ⟨_, results_none rfl _ _ _, rfl, ?_, ?_, ?_⟩
    · rw [EF.out]
      have E4 := E1.prot (Pr' := Pr) (fun k hk => .inl (.inl hk))
      obtain ⟨vw, h1, h2⟩ := E4.hw
      have nD : ∀ k (cs : Array Value) (t : TypeId) (fr : Nat × Nat), (w3.setCell ⟨Bo, 0, none⟩ (.slice A1 (oj.length + 1) c1)).heap[k]? = some (.cells cs t fr) → k ∉ [D] := fun k cs t fr hk hm => by
        obtain rfl : k = D := by simpa using hm
        rw [E3.2 _ _ HKD.out rfl] at hk
        cases hk
      refine ⟨(hW'.same _ (nD _ _ _ _ E4.hg)).trans E4.hg, (hW'.same _ (nD _ _ _ _ E4.hs)).trans E4.hs, (hW'.same _ (nD _ _ _ _ E4.hc)).trans E4.hc, (hW'.same _ (nD _ _ _ _ E4.hf)).trans E4.hf, ⟨vw, (hW'.same _ (nD _ _ _ _ h1)).trans h1, ?_⟩, fun k hk => ?_, E4.bl.trans (hW'.below (fun D' hD' => by obtain rfl : D' = D := (by simpa using hD'); exact Nat.le_trans hbg.out HD.out))⟩
      · refine Kd.R_mono (Kd.R_step (Kd.R_tight rfl h2) (fun k0 hk0 hlt => hW'.same k0 (fun hm => ?_))) (fun k hk => h2.1 k hk.symm)
        obtain rfl : k0 = D := by simpa using hm
        exact own_ne h2 (E3.2 _ _ HKD.out rfl) rfl hk0
      · obtain ⟨p1, p2, p3⟩ := E4.pr k hk
        exact ⟨by rw [hW'.size]; exact p1, p2, p3⟩
    · intro j hj
      have hjl := (S0.out.pr j hj).1
      exact (hW'.same j (fun hm => by have e : j = D := (by simpa using hm); omega)).trans ((E2 j (.inl hj)).trans (HH.out.2.1 j hj))
    · refine ⟨?_, fun j o hj ho => ?_⟩
      · rw [hW'.size]
        have h5 := blk_lt HKD.out
        have h6 := E3.1
        omega
      · have hjl := blk_lt hj
        exact (hW'.same j (fun hm => by have e : j = D := (by simpa using hm); omega)).trans (E3.2 j o (HH.out.2.2.1 j o hj ho) ho)
  case stop =>
    rintro D c pre W5 _ _ h _
    exact h.elim
def graph_Postorder.f (a0_0 : Int) (l0_1 : List S53) (a1 : Int) : Option (List Int) := some (if 0 ≤ a1 ∧ a1 < a0_0 ∧ chk a0_0 l0_1 = 0 then (visT l0_1 a0_0.toNat a1 (List.replicate a0_0.toNat false, [])).2 else [])
theorem madeB (m : Nat) : madeCells #[.bool false] m = (((List.replicate m false).map Value.bool).toArray) := by
  apply Array.ext
  · simp [madeCells]
  · intro i h1 h2
    simp [madeCells, Nat.mod_one]
theorem cnt_rep (n : Nat) : cnt (List.replicate n false) = n := by simp [cnt, List.countP_replicate]
set_option maxRecDepth 100000 in
set_option maxHeartbeats 1000000 in
theorem graph_Postorder.calls (a0_0 : Int) (A0_1 : Option Addr) (c0_1 : Nat) (l0_1 : List S53) (a1 : Int) (r : List Int) (w : World) (hr0_1 : Kd.C k53 w A0_1 l0_1.length l0_1) (hc0_1 : l0_1.length ≤ c0_1) (h : graph_Postorder.f a0_0 l0_1 a1 = some r) :
    Calls Tryd.prog 43 #[.agg #[.int .i64 a0_0, .slice A0_1 l0_1.length c0_1], .int .i64 a1] w fun e w' => ∃ v0_ : Value, e = .returned v0_ ∧ Kd.R (Kd.int .i64) 3 w' w.heap.size (fun _ => True) v0_ r ∧ Below w.heap.size w w' := by
  have R0 := As2.mk hr0_1
  have HF := As2.mk (usable_f a0_0 l0_1 a1 _ (Nat.le_refl _))
  unfold graph_Postorder.f at h
  have H := As2.mk (Option.some.inj h)
  clear hr0_1 h
  by_cases hu : 0 ≤ a1 ∧ a1 < a0_0 ∧ chk a0_0 l0_1 = 0
  · rw [if_pos hu] at H
    rw [decide_eq_true hu] at HF
    obtain ⟨h0, h1, h2⟩ := hu
    obtain ⟨n, rfl⟩ := Int.eq_ofNat_of_zero_le (Int.le_trans h0 (Int.le_of_lt h1))
    obtain ⟨v, rfl⟩ := Int.eq_ofNat_of_zero_le h0
    have HV := As2.mk ((chk_zero _ _).1 h2)
    have hn1 := HV.out.n1
    have hvn := As2.mk (show v < n by omega)
    rw [Int.toNat_natCast] at H
    clear h0 h1 h2
    have hmk : ∀ W : World, (Instr.makeSlice 64 (.int .i64 (n : Int)) (.int .i64 (n : Int))).run Tryd.prog W = .ok (.slice (some ⟨W.heap.size, 0, none⟩) n n) (W.alloc (.cells (madeCells #[.bool false] n) 4)) := by
      intro W
      obtain ⟨i0, hi, hz⟩ := Option.map_eq_some_iff.1 (show (Tryd.prog.info? 4).map (fun i => (i.zero, i.size, i.bytes)) = some (some (.bool false), 1, 1) by kernel_rfl)
      simp only [Prod.mk.injEq] at hz
      obtain ⟨hz0, hz1, hz2⟩ := hz
      have z := run_make (P := Tryd.prog) W 64 4 i0 _ Tryd.underlying64 hi hz0 .i64 .i64 (n : Int) (n : Int) (by omega) (by omega) (by rw [hz2]; omega) (by omega)
      rw [hz1, Int.toNat_natCast, Nat.mul_one] at z
      exact z
    go_enter Tryd.func43, Tryd.ntmps43
    go_wp2_with (first | (go_at_call 75; refine (graph_usable.calls _ (n : Int) A0_1 c0_1 l0_1 (v : Int) true _ ?hr hc0_1 HF.out).mono ?_; (case hr => exact Kd.C_alloc R0.out _); rintro e w1 ⟨rfl, hb⟩; have B1 := As2.mk hb; clear hb; have kk := blk_below (heap_alloc_new w (.cells #[.int .i64 n, .slice A0_1 l0_1.length c0_1] 24)) B1.out; have g0 : w1.cell? ⟨w.heap.size, 0, none⟩ = some (.int .i64 n) := (blk_cell kk 0).trans rfl; have hs1 := blk_lt kk; have KK := As2.mk kk; clear kk) | (go_at_call 79; obtain ⟨W2, hW2⟩ : ∃ W2, W2 = ((((w1.alloc (.cells #[.slice none 0 0] 31)).alloc (.cells (madeCells #[.bool false] n) 4)).alloc (.cells #[.slice (some ⟨w1.heap.size + 1, 0, none⟩) n n] 64)).alloc (.cells #[.func (.func 79) #[] #[.pointer (some ⟨w1.heap.size + 1 + 1, 0, none⟩), .pointer (some ⟨w.heap.size, 0, none⟩), .pointer (some ⟨w1.heap.size + 1 + 1 + 1, 0, none⟩), .pointer (some ⟨w1.heap.size, 0, none⟩)]] 88)) := ⟨_, rfl⟩; rw [← hW2]; have S2 := As2.mk (show VS w n A0_1 c0_1 l0_1 w.heap.size (w1.heap.size + 1 + 1) (w1.heap.size + 1 + 1 + 1) w1.heap.size (w1.heap.size + 1) w.heap.size (fun _ => False) (List.replicate n false) [] W2 from ⟨by subst hW2; exact blk_alloc (blk_alloc (blk_alloc (blk_alloc KK.out _) _) _) _, by subst hW2; have z := heap_alloc_new ((w1.alloc (.cells #[.slice none 0 0] 31)).alloc (.cells (madeCells #[.bool false] n) 4)) (.cells #[.slice (some ⟨w1.heap.size + 1, 0, none⟩) n n] 64); rw [World.size_alloc, World.size_alloc] at z; simpa using blk_alloc z _, by subst hW2; rw [← madeB]; have z := heap_alloc_new (w1.alloc (.cells #[.slice none 0 0] 31)) (.cells (madeCells #[.bool false] n) 4); rw [World.size_alloc] at z; exact blk_alloc (blk_alloc z _) _, by subst hW2; have z := heap_alloc_new (((w1.alloc (.cells #[.slice none 0 0] 31)).alloc (.cells (madeCells #[.bool false] n) 4)).alloc (.cells #[.slice (some ⟨w1.heap.size + 1, 0, none⟩) n n] 64)) (.cells #[.func (.func 79) #[] #[.pointer (some ⟨w1.heap.size + 1 + 1, 0, none⟩), .pointer (some ⟨w.heap.size, 0, none⟩), .pointer (some ⟨w1.heap.size + 1 + 1 + 1, 0, none⟩), .pointer (some ⟨w1.heap.size, 0, none⟩)]] 88); rw [World.size_alloc, World.size_alloc, World.size_alloc] at z; exact z, ⟨_, by subst hW2; exact blk_alloc (blk_alloc (blk_alloc (heap_alloc_new w1 _) _) _) _, Kd.R_nil _ _ _ _ _⟩, fun _ h => h.elim, by subst hW2; exact ((((below_step ((Below.refl w.heap.size w).alloc (Nat.le_refl _) _) B1.out).alloc (by omega) _).alloc (by simp; omega) _).alloc (by simp; omega) _).alloc (by simp; omega) _⟩); clear hW2; refine (visit_calls w n A0_1 c0_1 l0_1 w.heap.size (w1.heap.size + 1 + 1) (w1.heap.size + 1 + 1 + 1) w1.heap.size (w1.heap.size + 1) w.heap.size HV.out R0.out rfl (by omega) (by omega) n v (fun _ => False) (List.replicate n false) [] W2 (by rw [cnt_rep]; exact Nat.le_refl _) hvn.out (by have := hvn.out; simp [List.getD, this]) (by simp) (by rw [cnt_rep]; simp; omega) S2.out).mono ?_; rintro e w3 ⟨rfl, h3, _, _⟩; have S3 := As2.mk h3; obtain ⟨vw, hw1, hw2⟩ := h3.hw; have HW2 := As2.mk hw2; have co : w3.cell? ⟨w1.heap.size, 0, none⟩ = some vw := (blk_cell hw1 0).trans rfl; clear h3 hw1 hw2 g0))
    go_ret
    exact ⟨_, rfl, by rw [← H.out]; exact Kd.R_mono HW2.out (fun _ _ => trivial), S3.out.bl⟩
  · rw [if_neg hu] at H
    rw [decide_eq_false hu] at HF
    clear hu
    go_enter Tryd.func43, Tryd.ntmps43
    go_wp2_with (go_at_call 75; refine (graph_usable.calls _ a0_0 A0_1 c0_1 l0_1 a1 false _ ?hr hc0_1 HF.out).mono ?_; (case hr => exact Kd.C_alloc R0.out _); rintro e w1 ⟨rfl, hb⟩; have B1 := As2.mk hb; clear hb)
    go_ret
    exact ⟨_, rfl, by rw [← H.out]; exact Kd.R_nil _ _ _ _ _, below_step ((Below.refl _ _).alloc (Nat.le_refl _) _) B1.out⟩
end Go.Proofs.YtfgbkklhjocmjaaDoor.Xq
namespace Go.Proofs.YtfgbkklhjocmjaaDoor.Xq
open Go.RowKit Go.Proofs.YtfgbkklhjocmjaaDoorW.PrintWords Go.Proofs.YtfgbkklhjocmjaaDoorW.PrintLast Go.Proofs.YtfgbkklhjocmjaaDoorW.PrintMore
attribute [local go_sem] max2_int min2_int max_two min_two max_three min_three max_four min_four
def w4_GraphPostorder.f (k : Nat) (a0_0 : Int) (l0_1 : List (S53)) (a1 : Int) : Option (Bool) := if (l0_1.length : Int) > 400 then ((w4_awake.f).bind fun t407 => (some t407)) else ((graph_Postorder.f a0_0 l0_1 a1).bind fun t408 => ((r4_Postorder.f k a0_0 l0_1 a1).bind fun t411 => ((r4_Equal.f k t408 t411).bind fun t414 => (if t414 = true then ((w4_awake.f).bind fun t415 => (some t415)) else (some false)))))
def w4_GraphPostorder.T3 : Bool × List (List Nat × List Nat) := (true, [([], []), ([], []), ([0, 1], [0, 1]), ([], []), ([], []), ([3, 4, 2], [3, 4]), ([2, 5, 5], [2, 5]), ([6, 6], [6]), ([7, 7], [7]), ([7, 8], [7, 8]), ([9, 8, 0, 1, 2, 3, 4, 5, 6, 7, 8, 9], [9])])
def w4_GraphPostorder.B3 : List Nat := [0, 0, 3, 0, 0, 31, 63, 127, 255, 511, 1023]
theorem w4_GraphPostorder.tab3 : rtab .any (opsOf Tryd.f9 3) = w4_GraphPostorder.T3 := by kernel_rfl
theorem w4_GraphPostorder.bits3 : waitsOk w4_GraphPostorder.T3.2 w4_GraphPostorder.B3 = true := by kernel_rfl
set_option maxHeartbeats 8000000 in
set_option maxRecDepth 100000 in
theorem w4_GraphPostorder.calls (k : Nat) (a0_0 : Int) (A0_1 : Option Addr) (c0_1 : Nat) (l0_1 : List (S53)) (a1 : Int) (r : Bool) (w : World) (hr0_1 : Kd.C k53 w A0_1 l0_1.length l0_1) (hc0_1 : l0_1.length ≤ c0_1) (hG_ : TabW w) (h : w4_GraphPostorder.f k a0_0 l0_1 a1 = some r) :
  Calls Tryd.prog 9 #[.agg #[.int .i64 a0_0, .slice A0_1 l0_1.length c0_1], .int .i64 a1] w fun e w' => e = .returned (.bool r) ∧ Below w.heap.size w w' := by
 have hu24 := Tryd.underlying24
 have HR0_1 := aM_ hr0_1
 have HC0_1 := aM_ hc0_1
 clear hr0_1 hc0_1
 have HB := aM_ (Below.refl w.heap.size w)
 have HG_ := aM_ hG_
 clear hG_
 have H : (if (l0_1.length : Int) > 400 then ((w4_awake.f).bind fun t407 => (some t407)) else ((graph_Postorder.f a0_0 l0_1 a1).bind fun t408 => ((r4_Postorder.f k a0_0 l0_1 a1).bind fun t411 => ((r4_Equal.f k t408 t411).bind fun t414 => (if t414 = true then ((w4_awake.f).bind fun t415 => (some t415)) else (some false)))))) = some r := h
 clear h
 by_cases c3 : (l0_1.length : Int) > 400
 ·rw [if_pos c3] at H
  have c3b0 : decide (400 < (l0_1.length : Int)) = true := decide_eq_true c3
  have c3b1 : decide (400 < l0_1.length) = true := decide_eq_true (by omega)
  clear c3
  replace H := Option.bind_eq_some_iff.mp H
  obtain ⟨t407, A40, H⟩ := H
  replace H : (some t407) = some r := H
  have A4 := aM_ A40
  clear A40
  obtain rfl := Option.some.inj H
  go_enter Tryd.func9, Tryd.ntmps9
  go_wp2_with (first | ((with_reducible refine gate_dst (N := 2) rfl ?_); refine box_event ?hg (N := 2) ?hd (cs := #[.int .i64 a0_0, .slice A0_1 l0_1.length c0_1]) (t := 24) ?hr ?_; (case hd => rfl); (case hg => rfl); (case hr => first | (go_simp; done) | (go_simp; rfl)); intro gb406 hg w5 hbox hb; have n0_ := aM_ (below_step (by repeat (first | (with_reducible first | exact HB.out | apply bA_ | apply bB_ | apply bC_) | exact HB.out)) hb); have n1_ := aM_ (hbox); have n2_ := aM_ ((by rw [hg]; exact (below_size (by repeat (first | (with_reducible first | exact HB.out | apply bA_ | apply bB_ | apply bC_) | exact HB.out))) : w.heap.size ≤ gb406)); have n3_ := aM_ ((by rw [hg]; exact (below_size (by repeat (first | (with_reducible first | exact HB.out | apply bA_ | apply bB_ | apply bC_) | exact HB.out))) : w.heap.size ≤ gb406)); clear HB; have HB := n0_; have BK406 := n1_; have GW406 := n2_; have GE406 := n3_; clear n0_ n1_ n2_ n3_; clear hb hbox hg; have hcz6_0 : w5.cell? ⟨gb406, 0, none⟩ = some (.int .i64 a0_0) := (blk_cell BK406.out 0).trans rfl; have hcz6_1 : w5.cell? ⟨gb406, 1, none⟩ = some (.slice A0_1 l0_1.length c0_1) := (blk_cell BK406.out 1).trans rfl; have hfz6_0 := blk_frozen BK406.out 0; have hfz6_1 := blk_frozen BK406.out 1) | ((with_reducible refine gate_callee (f := 30) rfl ?_); refine goesL_ (some 9) rfl rfl Tryd.func30 (by kernel_rfl) rfl #[] rfl (by (try simp only [List.map_toArray, List.map_cons, List.map_nil]); first | done | rfl | (simp only [List.length_drop, List.length_take]; rfl)) ?_; (with_reducible refine (w4_awake.calls  t407 _ ?side1 A4.out).mono ?_); (case side1 => exact TabW.below HG_.out (by repeat (first | (with_reducible first | exact HB.out | apply bA_ | apply bB_ | apply bC_ | refine below_set ?_ GE406.out) | exact HB.out))); rintro e w7 ⟨rfl, hb⟩; refine ⟨_, rfl, ?_⟩; have n0_ := aM_ (blk_below (g := gb406) (o := .cells #[.int .i64 a0_0, .slice A0_1 l0_1.length c0_1] 24 (0, 0)) (by (with_reducible repeat (first | refine blk_drewN ?_ _ | refine blk_drew ?_ | refine blk_alloc ?_ _)); exact BK406.out) hb); have n1_ := aM_ (below_step (by repeat (first | (with_reducible first | exact HB.out | apply bA_ | apply bB_ | apply bC_ | refine below_set ?_ GE406.out) | exact HB.out)) hb); clear BK406; clear HB; have BK406 := n0_; have HB := n1_; clear n0_ n1_; (try clear hb); (try clear hb2); (try clear hk); (try clear hi)))
  go_ret
  exact ⟨by first | rfl | (simp [errW_none, errW_some] <;> rfl) | (simp [*, errW_none, errW_some] <;> rfl), by repeat (first | (with_reducible first | exact HB.out | apply bA_ | apply bB_ | apply bC_ | refine below_set ?_ GE406.out) | exact HB.out)⟩
 ·rw [if_neg c3] at H
  have c3b0 : decide (400 < (l0_1.length : Int)) = false := decide_eq_false c3
  have c3b1 : decide (400 < l0_1.length) = false := decide_eq_false (by omega)
  clear c3
  replace H := Option.bind_eq_some_iff.mp H
  obtain ⟨t408, A80, H⟩ := H
  replace H : ((r4_Postorder.f k a0_0 l0_1 a1).bind fun t411 => ((r4_Equal.f k t408 t411).bind fun t414 => (if t414 = true then ((w4_awake.f).bind fun t415 => (some t415)) else (some false)))) = some r := H
  have A8 := aM_ A80
  clear A80
  replace H := Option.bind_eq_some_iff.mp H
  obtain ⟨t411, A90, H⟩ := H
  replace H : ((r4_Equal.f k t408 t411).bind fun t414 => (if t414 = true then ((w4_awake.f).bind fun t415 => (some t415)) else (some false))) = some r := H
  have A9 := aM_ A90
  clear A90
  replace H := Option.bind_eq_some_iff.mp H
  obtain ⟨t414, A100, H⟩ := H
  replace H : (if t414 = true then ((w4_awake.f).bind fun t415 => (some t415)) else (some false)) = some r := H
  have A10 := aM_ A100
  clear A100
  by_cases c11 : t414 = true
  ·subst c11
   have H1 : ((w4_awake.f).bind fun t415 => (some t415)) = some r := by rw [if_pos rfl] at H; exact H
   clear H
   have H := H1
   clear H1
   replace H := Option.bind_eq_some_iff.mp H
   obtain ⟨t415, A120, H⟩ := H
   replace H : (some t415) = some r := H
   have A12 := aM_ A120
   clear A120
   obtain rfl := Option.some.inj H
   go_enter Tryd.func9, Tryd.ntmps9
   try go_wp2_with (first | ((with_reducible refine gate_dst (N := 2) rfl ?_); refine box_event ?hg (N := 2) ?hd (cs := #[.int .i64 a0_0, .slice A0_1 l0_1.length c0_1]) (t := 24) ?hr ?_; (case hd => rfl); (case hg => rfl); (case hr => first | (go_simp; done) | (go_simp; rfl)); intro gb406 hg w13 hbox hb; have n0_ := aM_ (below_step (by repeat (first | (with_reducible first | exact HB.out | apply bA_ | apply bB_ | apply bC_) | exact HB.out)) hb); have n1_ := aM_ (hbox); have n2_ := aM_ ((by rw [hg]; exact (below_size (by repeat (first | (with_reducible first | exact HB.out | apply bA_ | apply bB_ | apply bC_) | exact HB.out))) : w.heap.size ≤ gb406)); have n3_ := aM_ ((by rw [hg]; exact (below_size (by repeat (first | (with_reducible first | exact HB.out | apply bA_ | apply bB_ | apply bC_) | exact HB.out))) : w.heap.size ≤ gb406)); clear HB; have HB := n0_; have BK406 := n1_; have GW406 := n2_; have GE406 := n3_; clear n0_ n1_ n2_ n3_; clear hb hbox hg; have hcz14_0 : w13.cell? ⟨gb406, 0, none⟩ = some (.int .i64 a0_0) := (blk_cell BK406.out 0).trans rfl; have hcz14_1 : w13.cell? ⟨gb406, 1, none⟩ = some (.slice A0_1 l0_1.length c0_1) := (blk_cell BK406.out 1).trans rfl; have hfz14_0 := blk_frozen BK406.out 0; have hfz14_1 := blk_frozen BK406.out 1))
   have n0_ := aM_ (blk_drew BK406.out)
   have n1_ := aM_ (below_drew1 HB.out)
   clear BK406
   clear HB
   have BK406 := n0_
   have HB := n1_
   clear n0_ n1_
   refine start_ (n := 11) (S := fun w' => w'.cell? ⟨gb406, 0, none⟩ = some (.int .i64 a0_0) ∧ w'.cell? ⟨gb406, 1, none⟩ = some (.slice A0_1 l0_1.length c0_1)) (ds := []) #[f_,f_,f_,f_,f_,f_,f_,f_,f_,f_,f_] (by kernel_rfl) rfl rfl ⟨(blk_cell BK406.out 0).trans rfl, (blk_cell BK406.out 1).trans rfl⟩ (fun hHeld => ?_); refine with_tabW w4_GraphPostorder.tab3 w4_GraphPostorder.bits3 (fun HT_ HW_ => ?_)
   generalize w13.drew = w15 at BK406 HB hHeld ⊢
   refine pure_ (i := 1) (N := some 11) (v := ?_) (a' := ?_) #[f_,t_,f_,f_,f_,f_,f_,f_,f_,f_,f_] rfl rfl (any_of HT_.out (by kernel_rfl)) (fun _ _ _ h => h) (Or.inl ⟨by rfl, ?_⟩) ?_ ?_
   rotate_left
   ·intro w'
    go_simp
    with_reducible rfl
   rotate_left
   ·simp only [Act.put,uA_,uB_,uC_,i64_w,i32_w]
    rfl
   refine pure_ (i := 4) (N := some 14) (v := ?_) (a' := ?_) #[f_,t_,f_,f_,t_,f_,f_,f_,f_,f_,f_] rfl rfl (any_of HT_.out (by kernel_rfl)) (fun _ _ _ h => h) (Or.inl ⟨by rfl, ?_⟩) ?_ ?_
   rotate_left
   ·intro w'
    go_simp
    with_reducible rfl
   rotate_left
   ·simp only [Act.put,uA_,uB_,uC_,i64_w,i32_w]
    rfl
   refine take_ (i := 0) (N := some 10) (v := ?_) (a' := ?_) #[t_,t_,f_,f_,t_,f_,f_,f_,f_,f_,f_] rfl rfl (take_ofW HT_.out HW_.out (by kernel_rfl)) (fun _ _ _ h => h) (Or.inl ⟨by rfl, ?_⟩) hHeld ?_ ?_
   rotate_left
   ·rintro w' ⟨s0, s1⟩
    go_simp
    with_reducible rfl
   rotate_left
   ·simp only [Act.put,uA_,uB_,uC_,i64_w,i32_w]
    rfl
   refine take_ (i := 3) (N := some 13) (v := ?_) (a' := ?_) #[t_,t_,f_,t_,t_,f_,f_,f_,f_,f_,f_] rfl rfl (take_ofW HT_.out HW_.out (by kernel_rfl)) (fun _ _ _ h => h) (Or.inl ⟨by rfl, ?_⟩) hHeld ?_ ?_
   rotate_left
   ·rintro w' ⟨s0, s1⟩
    go_simp
    with_reducible rfl
   rotate_left
   ·simp only [Act.put,uA_,uB_,uC_,i64_w,i32_w]
    rfl
   refine one_ (i := 2) (N := some 12) #[t_,t_,t_,t_,t_,f_,f_,f_,f_,f_,f_] rfl rfl (one_of HT_.out (by kernel_rfl)) (by decide) (fun K hK => ?_)
   refine goes_ Tryd.func43 (by kernel_rfl) rfl #[.agg #[.int .i64 a0_0, .slice A0_1 l0_1.length c0_1], .int .i64 a1] (by rfl) rfl rfl (by (try simp only [List.map_toArray, List.map_cons, List.map_nil]); first | done | rfl | (simp only [List.length_drop, List.length_take]; rfl)) ?_
   with_reducible refine (graph_Postorder.calls a0_0 _ _ l0_1 a1 t408 _ ?side1 ?side2 A8.out).mono ?_
   (case side1 => repeat (first | exact (Kd.C_below HR0_1.out HB.out) | (with_reducible refine Kd.C_alloc ?_ _) | (with_reducible refine Kd.C_drewN ?_ _) | (with_reducible refine Kd.C_drew ?_)))
   (case side2 => exact HC0_1.out)
   rintro e w16 ⟨v409, rfl, ho0, hb⟩
   refine ⟨_, rfl, ?_⟩
   have n0_ := aM_ (Kd.R_lower ho0 (below_size (by repeat (first | (with_reducible first | exact HB.out | apply bA_ | apply bB_ | apply bC_ | refine below_set ?_ GE406.out) | exact HB.out))))
   have n1_ := aM_ (blk_below (g := gb406) (o := .cells #[.int .i64 a0_0, .slice A0_1 l0_1.length c0_1] 24 (0, 0)) (by (with_reducible repeat (first | refine blk_drewN ?_ _ | refine blk_drew ?_ | refine blk_alloc ?_ _)); exact BK406.out) hb)
   have n2_ := aM_ (below_step (by repeat (first | (with_reducible first | exact HB.out | apply bA_ | apply bB_ | apply bC_ | refine below_set ?_ GE406.out) | exact HB.out)) hb)
   clear BK406
   clear HB
   have HO410 := n0_
   have BK406 := n1_
   have HB := n2_
   clear n0_ n1_ n2_
   (try clear hb)
   (try clear hb2)
   (try clear hk)
   (try clear hi)
   (try clear ho0)
   refine hK.out _ _ ⟨(blk_cell BK406.out 0).trans rfl, (blk_cell BK406.out 1).trans rfl⟩ (fun hHeld => ?_)
   clear hK K
   refine norm_ (a' := ?_) ?_ ?_
   rotate_left
   ·show Act.put _ (some 12) _ = _
    simp only [Act.put,uA_,uB_,uC_,i64_w,i32_w]
    rfl
   refine one_ (i := 5) (N := some 15) #[t_,t_,t_,t_,t_,t_,f_,f_,f_,f_,f_] rfl rfl (one_of HT_.out (by kernel_rfl)) (by decide) (fun K hK => ?_)
   refine goes_ Tryd.func44 (by kernel_rfl) rfl #[.agg #[.int .i64 a0_0, .slice A0_1 l0_1.length c0_1], .int .i64 a1] (by rfl) rfl rfl (by (try simp only [List.map_toArray, List.map_cons, List.map_nil]); first | done | rfl | (simp only [List.length_drop, List.length_take]; rfl)) ?_
   with_reducible refine (r4_Postorder.calls k a0_0 _ _ l0_1 a1 t411 _ ?side1 ?side2 A9.out).mono ?_
   (case side1 => repeat (first | exact (Kd.C_below HR0_1.out HB.out) | (with_reducible refine Kd.C_alloc ?_ _) | (with_reducible refine Kd.C_drewN ?_ _) | (with_reducible refine Kd.C_drew ?_)))
   (case side2 => exact HC0_1.out)
   rintro e w17 ⟨v412, rfl, ho0, hb⟩
   refine ⟨_, rfl, ?_⟩
   have n0_ := aM_ (Kd.R_elder' (by (with_reducible repeat (first | apply rA_ | apply rB_ | apply rC_)); exact HO410.out) (Kd.R_base ho0) hb)
   have n1_ := aM_ (Kd.R_lower (Kd.R_new' ho0 (Kd.R_lt (by (with_reducible repeat (first | apply rA_ | apply rB_ | apply rC_)); exact HO410.out))) (below_size (by repeat (first | (with_reducible first | exact HB.out | apply bA_ | apply bB_ | apply bC_ | refine below_set ?_ GE406.out) | exact HB.out))))
   have n2_ := aM_ (blk_below (g := gb406) (o := .cells #[.int .i64 a0_0, .slice A0_1 l0_1.length c0_1] 24 (0, 0)) (by (with_reducible repeat (first | refine blk_drewN ?_ _ | refine blk_drew ?_ | refine blk_alloc ?_ _)); exact BK406.out) hb)
   have n3_ := aM_ (below_step (by repeat (first | (with_reducible first | exact HB.out | apply bA_ | apply bB_ | apply bC_ | refine below_set ?_ GE406.out) | exact HB.out)) hb)
   clear HO410
   clear BK406
   clear HB
   have HO410 := n0_
   have HO413 := n1_
   have BK406 := n2_
   have HB := n3_
   clear n0_ n1_ n2_ n3_
   (try clear hb)
   (try clear hb2)
   (try clear hk)
   (try clear hi)
   (try clear ho0)
   obtain ⟨Ao18, co18, eo18⟩ := Kd.R_slice HO410.out
   (first | subst eo18 | (injection eo18 with f1_ f2_ f3_; have f4_ := f1_.symm; have f5_ := f3_.symm; clear f1_ f2_ f3_; subst f4_; subst f5_))
   obtain ⟨Ao19, co19, eo19⟩ := Kd.R_slice HO413.out
   (first | subst eo19 | (injection eo19 with f1_ f2_ f3_; have f4_ := f1_.symm; have f5_ := f3_.symm; clear f1_ f2_ f3_; subst f4_; subst f5_))
   refine hK.out _ _ ⟨(blk_cell BK406.out 0).trans rfl, (blk_cell BK406.out 1).trans rfl⟩ (fun hHeld => ?_)
   clear hK K
   refine norm_ (a' := ?_) ?_ ?_
   rotate_left
   ·show Act.put _ (some 15) _ = _
    simp only [Act.put,uA_,uB_,uC_,i64_w,i32_w]
    rfl
   refine one_ (i := 6) (N := some 16) #[t_,t_,t_,t_,t_,t_,t_,f_,f_,f_,f_] rfl rfl (one_of HT_.out (by kernel_rfl)) (by decide) (fun K hK => ?_)
   refine goes_ Tryd.func36 (by kernel_rfl) rfl #[.slice Ao18 t408.length co18, .slice Ao19 t411.length co19] (by rfl) rfl rfl (by (try simp only [List.map_toArray, List.map_cons, List.map_nil]); first | done | rfl | (simp only [List.length_drop, List.length_take]; rfl)) ?_
   with_reducible refine (r4_Equal.calls k _ _ t408 _ _ t411 true _ ?side1 ?side2 ?side3 ?side4 A10.out).mono ?_
   (case side1 => repeat (first | exact (Kd.R_reads' HO410.out).2.2 | (with_reducible refine Kd.C_alloc ?_ _) | (with_reducible refine Kd.C_drewN ?_ _) | (with_reducible refine Kd.C_drew ?_)))
   (case side2 => exact (Kd.R_reads' HO410.out).2.1)
   (case side3 => repeat (first | exact (Kd.R_reads' HO413.out).2.2 | (with_reducible refine Kd.C_alloc ?_ _) | (with_reducible refine Kd.C_drewN ?_ _) | (with_reducible refine Kd.C_drew ?_)))
   (case side4 => exact (Kd.R_reads' HO413.out).2.1)
   rintro e w' ⟨rfl, ⟨nd, rfl⟩⟩
   refine ⟨_, rfl, ?_⟩
   refine hK.out _ _ ⟨(blk_cell BK406.out 0).trans rfl, (blk_cell BK406.out 1).trans rfl⟩ (fun hHeld => ?_)
   clear hK K
   refine norm_ (a' := ?_) ?_ ?_
   rotate_left
   ·show Act.put _ (some 16) _ = _
    simp only [Act.put,uA_,uB_,uC_,i64_w,i32_w]
    rfl
   refine pure_ (i := 7) (N := some 17) (v := ?_) (a' := ?_) #[t_,t_,t_,t_,t_,t_,t_,t_,f_,f_,f_] rfl rfl (any_of HT_.out (by kernel_rfl)) (fun _ _ _ h => h) (Or.inl ⟨by rfl, ?_⟩) ?_ ?_
   rotate_left
   ·intro w'
    go_simp
    with_reducible rfl
   rotate_left
   ·simp only [Act.put,uA_,uB_,uC_,i64_w,i32_w]
    rfl
   refine one_ (i := 8) (N := some 18) #[t_,t_,t_,t_,t_,t_,t_,t_,t_,f_,f_] rfl rfl (one_of HT_.out (by kernel_rfl)) (by decide) (fun K hK => ?_)
   refine goes_ Tryd.func30 (by kernel_rfl) rfl #[] (by rfl) rfl rfl (by (try simp only [List.map_toArray, List.map_cons, List.map_nil]); first | done | rfl | (simp only [List.length_drop, List.length_take]; rfl)) ?_
   with_reducible refine (w4_awake.calls  t415 _ ?side1 A12.out).mono ?_
   (case side1 => exact TabW.below HG_.out (by repeat (first | (with_reducible first | exact HB.out | apply bA_ | apply bB_ | apply bC_ | refine below_set ?_ GE406.out) | exact HB.out)))
   rintro e w20 ⟨rfl, hb⟩
   refine ⟨_, rfl, ?_⟩
   have n0_ := aM_ (Kd.R_below (by (with_reducible repeat (first | apply rA_ | apply rB_ | apply rC_)); exact HO410.out) hb)
   have n1_ := aM_ (Kd.R_below (by (with_reducible repeat (first | apply rA_ | apply rB_ | apply rC_)); exact HO413.out) hb)
   have n2_ := aM_ (blk_below (g := gb406) (o := .cells #[.int .i64 a0_0, .slice A0_1 l0_1.length c0_1] 24 (0, 0)) (by (with_reducible repeat (first | refine blk_drewN ?_ _ | refine blk_drew ?_ | refine blk_alloc ?_ _)); exact BK406.out) hb)
   have n3_ := aM_ (below_step (by repeat (first | (with_reducible first | exact HB.out | apply bA_ | apply bB_ | apply bC_ | refine below_set ?_ GE406.out) | exact HB.out)) hb)
   clear HO410
   clear HO413
   clear BK406
   clear HB
   have HO410 := n0_
   have HO413 := n1_
   have BK406 := n2_
   have HB := n3_
   clear n0_ n1_ n2_ n3_
   (try clear hb)
   (try clear hb2)
   (try clear hk)
   (try clear hi)
   refine hK.out _ _ ⟨(blk_cell BK406.out 0).trans rfl, (blk_cell BK406.out 1).trans rfl⟩ (fun hHeld => ?_)
   clear hK K
   refine norm_ (a' := ?_) ?_ ?_
   rotate_left
   ·show Act.put _ (some 18) _ = _
    simp only [Act.put,uA_,uB_,uC_,i64_w,i32_w]
    rfl
   refine pure_ (i := 9) (N := some 19) (v := ?_) (a' := ?_) #[t_,t_,t_,t_,t_,t_,t_,t_,t_,t_,f_] rfl rfl (any_of HT_.out (by kernel_rfl)) (fun _ _ _ h => h) (Or.inl ⟨by rfl, ?_⟩) ?_ ?_
   rotate_left
   ·intro w'
    go_simp
    with_reducible rfl
   rotate_left
   ·simp only [Act.put,uA_,uB_,uC_,i64_w,i32_w]
    rfl
   refine pure_ (i := 10) (N := some 4) (v := ?_) (a' := ?_) #[t_,t_,t_,t_,t_,t_,t_,t_,t_,t_,t_] rfl rfl (any_of HT_.out (by kernel_rfl)) (fun _ _ _ h => h) (Or.inl ⟨by rfl, ?_⟩) ?_ ?_
   rotate_left
   ·intro w'
    go_simp
    with_reducible rfl
   rotate_left
   ·simp only [Act.put,uA_,uB_,uC_,i64_w,i32_w]
    rfl
   refine done_ (done_of HT_.out (by kernel_rfl)) ?_
   try go_wp2
   go_ret
   exact ⟨by first | rfl | (simp [errW_none, errW_some] <;> rfl) | (simp [*, errW_none, errW_some] <;> rfl), by repeat (first | (with_reducible first | exact HB.out | apply bA_ | apply bB_ | apply bC_ | refine below_set ?_ GE406.out) | exact HB.out)⟩
  ·replace c11 := Bool.eq_false_iff.mpr c11
   subst c11
   have H1 : (some false) = some r := by rw [if_neg (show ¬ (false = true) by decide)] at H; exact H
   clear H
   have H := H1
   clear H1
   obtain rfl := Option.some.inj H
   go_enter Tryd.func9, Tryd.ntmps9
   try go_wp2_with (first | ((with_reducible refine gate_dst (N := 2) rfl ?_); refine box_event ?hg (N := 2) ?hd (cs := #[.int .i64 a0_0, .slice A0_1 l0_1.length c0_1]) (t := 24) ?hr ?_; (case hd => rfl); (case hg => rfl); (case hr => first | (go_simp; done) | (go_simp; rfl)); intro gb406 hg w21 hbox hb; have n0_ := aM_ (below_step (by repeat (first | (with_reducible first | exact HB.out | apply bA_ | apply bB_ | apply bC_) | exact HB.out)) hb); have n1_ := aM_ (hbox); have n2_ := aM_ ((by rw [hg]; exact (below_size (by repeat (first | (with_reducible first | exact HB.out | apply bA_ | apply bB_ | apply bC_) | exact HB.out))) : w.heap.size ≤ gb406)); have n3_ := aM_ ((by rw [hg]; exact (below_size (by repeat (first | (with_reducible first | exact HB.out | apply bA_ | apply bB_ | apply bC_) | exact HB.out))) : w.heap.size ≤ gb406)); clear HB; have HB := n0_; have BK406 := n1_; have GW406 := n2_; have GE406 := n3_; clear n0_ n1_ n2_ n3_; clear hb hbox hg; have hcz22_0 : w21.cell? ⟨gb406, 0, none⟩ = some (.int .i64 a0_0) := (blk_cell BK406.out 0).trans rfl; have hcz22_1 : w21.cell? ⟨gb406, 1, none⟩ = some (.slice A0_1 l0_1.length c0_1) := (blk_cell BK406.out 1).trans rfl; have hfz22_0 := blk_frozen BK406.out 0; have hfz22_1 := blk_frozen BK406.out 1))
   have n0_ := aM_ (blk_drew BK406.out)
   have n1_ := aM_ (below_drew1 HB.out)
   clear BK406
   clear HB
   have BK406 := n0_
   have HB := n1_
   clear n0_ n1_
   refine start_ (n := 11) (S := fun w' => w'.cell? ⟨gb406, 0, none⟩ = some (.int .i64 a0_0) ∧ w'.cell? ⟨gb406, 1, none⟩ = some (.slice A0_1 l0_1.length c0_1)) (ds := []) #[f_,f_,f_,f_,f_,f_,f_,f_,f_,f_,f_] (by kernel_rfl) rfl rfl ⟨(blk_cell BK406.out 0).trans rfl, (blk_cell BK406.out 1).trans rfl⟩ (fun hHeld => ?_); refine with_tabW w4_GraphPostorder.tab3 w4_GraphPostorder.bits3 (fun HT_ HW_ => ?_)
   generalize w21.drew = w23 at BK406 HB hHeld ⊢
   refine pure_ (i := 1) (N := some 11) (v := ?_) (a' := ?_) #[f_,t_,f_,f_,f_,f_,f_,f_,f_,f_,f_] rfl rfl (any_of HT_.out (by kernel_rfl)) (fun _ _ _ h => h) (Or.inl ⟨by rfl, ?_⟩) ?_ ?_
   rotate_left
   ·intro w'
    go_simp
    with_reducible rfl
   rotate_left
   ·simp only [Act.put,uA_,uB_,uC_,i64_w,i32_w]
    rfl
   refine pure_ (i := 4) (N := some 14) (v := ?_) (a' := ?_) #[f_,t_,f_,f_,t_,f_,f_,f_,f_,f_,f_] rfl rfl (any_of HT_.out (by kernel_rfl)) (fun _ _ _ h => h) (Or.inl ⟨by rfl, ?_⟩) ?_ ?_
   rotate_left
   ·intro w'
    go_simp
    with_reducible rfl
   rotate_left
   ·simp only [Act.put,uA_,uB_,uC_,i64_w,i32_w]
    rfl
   refine take_ (i := 0) (N := some 10) (v := ?_) (a' := ?_) #[t_,t_,f_,f_,t_,f_,f_,f_,f_,f_,f_] rfl rfl (take_ofW HT_.out HW_.out (by kernel_rfl)) (fun _ _ _ h => h) (Or.inl ⟨by rfl, ?_⟩) hHeld ?_ ?_
   rotate_left
   ·rintro w' ⟨s0, s1⟩
    go_simp
    with_reducible rfl
   rotate_left
   ·simp only [Act.put,uA_,uB_,uC_,i64_w,i32_w]
    rfl
   refine take_ (i := 3) (N := some 13) (v := ?_) (a' := ?_) #[t_,t_,f_,t_,t_,f_,f_,f_,f_,f_,f_] rfl rfl (take_ofW HT_.out HW_.out (by kernel_rfl)) (fun _ _ _ h => h) (Or.inl ⟨by rfl, ?_⟩) hHeld ?_ ?_
   rotate_left
   ·rintro w' ⟨s0, s1⟩
    go_simp
    with_reducible rfl
   rotate_left
   ·simp only [Act.put,uA_,uB_,uC_,i64_w,i32_w]
    rfl
   refine one_ (i := 2) (N := some 12) #[t_,t_,t_,t_,t_,f_,f_,f_,f_,f_,f_] rfl rfl (one_of HT_.out (by kernel_rfl)) (by decide) (fun K hK => ?_)
   refine goes_ Tryd.func43 (by kernel_rfl) rfl #[.agg #[.int .i64 a0_0, .slice A0_1 l0_1.length c0_1], .int .i64 a1] (by rfl) rfl rfl (by (try simp only [List.map_toArray, List.map_cons, List.map_nil]); first | done | rfl | (simp only [List.length_drop, List.length_take]; rfl)) ?_
   with_reducible refine (graph_Postorder.calls a0_0 _ _ l0_1 a1 t408 _ ?side1 ?side2 A8.out).mono ?_
   (case side1 => repeat (first | exact (Kd.C_below HR0_1.out HB.out) | (with_reducible refine Kd.C_alloc ?_ _) | (with_reducible refine Kd.C_drewN ?_ _) | (with_reducible refine Kd.C_drew ?_)))
   (case side2 => exact HC0_1.out)
   rintro e w24 ⟨v409, rfl, ho0, hb⟩
   refine ⟨_, rfl, ?_⟩
   have n0_ := aM_ (Kd.R_lower ho0 (below_size (by repeat (first | (with_reducible first | exact HB.out | apply bA_ | apply bB_ | apply bC_ | refine below_set ?_ GE406.out) | exact HB.out))))
   have n1_ := aM_ (blk_below (g := gb406) (o := .cells #[.int .i64 a0_0, .slice A0_1 l0_1.length c0_1] 24 (0, 0)) (by (with_reducible repeat (first | refine blk_drewN ?_ _ | refine blk_drew ?_ | refine blk_alloc ?_ _)); exact BK406.out) hb)
   have n2_ := aM_ (below_step (by repeat (first | (with_reducible first | exact HB.out | apply bA_ | apply bB_ | apply bC_ | refine below_set ?_ GE406.out) | exact HB.out)) hb)
   clear BK406
   clear HB
   have HO410 := n0_
   have BK406 := n1_
   have HB := n2_
   clear n0_ n1_ n2_
   (try clear hb)
   (try clear hb2)
   (try clear hk)
   (try clear hi)
   (try clear ho0)
   refine hK.out _ _ ⟨(blk_cell BK406.out 0).trans rfl, (blk_cell BK406.out 1).trans rfl⟩ (fun hHeld => ?_)
   clear hK K
   refine norm_ (a' := ?_) ?_ ?_
   rotate_left
   ·show Act.put _ (some 12) _ = _
    simp only [Act.put,uA_,uB_,uC_,i64_w,i32_w]
    rfl
   refine one_ (i := 5) (N := some 15) #[t_,t_,t_,t_,t_,t_,f_,f_,f_,f_,f_] rfl rfl (one_of HT_.out (by kernel_rfl)) (by decide) (fun K hK => ?_)
   refine goes_ Tryd.func44 (by kernel_rfl) rfl #[.agg #[.int .i64 a0_0, .slice A0_1 l0_1.length c0_1], .int .i64 a1] (by rfl) rfl rfl (by (try simp only [List.map_toArray, List.map_cons, List.map_nil]); first | done | rfl | (simp only [List.length_drop, List.length_take]; rfl)) ?_
   with_reducible refine (r4_Postorder.calls k a0_0 _ _ l0_1 a1 t411 _ ?side1 ?side2 A9.out).mono ?_
   (case side1 => repeat (first | exact (Kd.C_below HR0_1.out HB.out) | (with_reducible refine Kd.C_alloc ?_ _) | (with_reducible refine Kd.C_drewN ?_ _) | (with_reducible refine Kd.C_drew ?_)))
   (case side2 => exact HC0_1.out)
   rintro e w25 ⟨v412, rfl, ho0, hb⟩
   refine ⟨_, rfl, ?_⟩
   have n0_ := aM_ (Kd.R_elder' (by (with_reducible repeat (first | apply rA_ | apply rB_ | apply rC_)); exact HO410.out) (Kd.R_base ho0) hb)
   have n1_ := aM_ (Kd.R_lower (Kd.R_new' ho0 (Kd.R_lt (by (with_reducible repeat (first | apply rA_ | apply rB_ | apply rC_)); exact HO410.out))) (below_size (by repeat (first | (with_reducible first | exact HB.out | apply bA_ | apply bB_ | apply bC_ | refine below_set ?_ GE406.out) | exact HB.out))))
   have n2_ := aM_ (blk_below (g := gb406) (o := .cells #[.int .i64 a0_0, .slice A0_1 l0_1.length c0_1] 24 (0, 0)) (by (with_reducible repeat (first | refine blk_drewN ?_ _ | refine blk_drew ?_ | refine blk_alloc ?_ _)); exact BK406.out) hb)
   have n3_ := aM_ (below_step (by repeat (first | (with_reducible first | exact HB.out | apply bA_ | apply bB_ | apply bC_ | refine below_set ?_ GE406.out) | exact HB.out)) hb)
   clear HO410
   clear BK406
   clear HB
   have HO410 := n0_
   have HO413 := n1_
   have BK406 := n2_
   have HB := n3_
   clear n0_ n1_ n2_ n3_
   (try clear hb)
   (try clear hb2)
   (try clear hk)
   (try clear hi)
   (try clear ho0)
   obtain ⟨Ao26, co26, eo26⟩ := Kd.R_slice HO410.out
   (first | subst eo26 | (injection eo26 with f1_ f2_ f3_; have f4_ := f1_.symm; have f5_ := f3_.symm; clear f1_ f2_ f3_; subst f4_; subst f5_))
   obtain ⟨Ao27, co27, eo27⟩ := Kd.R_slice HO413.out
   (first | subst eo27 | (injection eo27 with f1_ f2_ f3_; have f4_ := f1_.symm; have f5_ := f3_.symm; clear f1_ f2_ f3_; subst f4_; subst f5_))
   refine hK.out _ _ ⟨(blk_cell BK406.out 0).trans rfl, (blk_cell BK406.out 1).trans rfl⟩ (fun hHeld => ?_)
   clear hK K
   refine norm_ (a' := ?_) ?_ ?_
   rotate_left
   ·show Act.put _ (some 15) _ = _
    simp only [Act.put,uA_,uB_,uC_,i64_w,i32_w]
    rfl
   refine one_ (i := 6) (N := some 16) #[t_,t_,t_,t_,t_,t_,t_,f_,f_,f_,f_] rfl rfl (one_of HT_.out (by kernel_rfl)) (by decide) (fun K hK => ?_)
   refine goes_ Tryd.func36 (by kernel_rfl) rfl #[.slice Ao26 t408.length co26, .slice Ao27 t411.length co27] (by rfl) rfl rfl (by (try simp only [List.map_toArray, List.map_cons, List.map_nil]); first | done | rfl | (simp only [List.length_drop, List.length_take]; rfl)) ?_
   with_reducible refine (r4_Equal.calls k _ _ t408 _ _ t411 false _ ?side1 ?side2 ?side3 ?side4 A10.out).mono ?_
   (case side1 => repeat (first | exact (Kd.R_reads' HO410.out).2.2 | (with_reducible refine Kd.C_alloc ?_ _) | (with_reducible refine Kd.C_drewN ?_ _) | (with_reducible refine Kd.C_drew ?_)))
   (case side2 => exact (Kd.R_reads' HO410.out).2.1)
   (case side3 => repeat (first | exact (Kd.R_reads' HO413.out).2.2 | (with_reducible refine Kd.C_alloc ?_ _) | (with_reducible refine Kd.C_drewN ?_ _) | (with_reducible refine Kd.C_drew ?_)))
   (case side4 => exact (Kd.R_reads' HO413.out).2.1)
   rintro e w' ⟨rfl, ⟨nd, rfl⟩⟩
   refine ⟨_, rfl, ?_⟩
   refine hK.out _ _ ⟨(blk_cell BK406.out 0).trans rfl, (blk_cell BK406.out 1).trans rfl⟩ (fun hHeld => ?_)
   clear hK K
   refine norm_ (a' := ?_) ?_ ?_
   rotate_left
   ·show Act.put _ (some 16) _ = _
    simp only [Act.put,uA_,uB_,uC_,i64_w,i32_w]
    rfl
   refine pure_ (i := 7) (N := some 17) (v := ?_) (a' := ?_) #[t_,t_,t_,t_,t_,t_,t_,t_,f_,f_,f_] rfl rfl (any_of HT_.out (by kernel_rfl)) (fun _ _ _ h => h) (Or.inl ⟨by rfl, ?_⟩) ?_ ?_
   rotate_left
   ·intro w'
    go_simp
    with_reducible rfl
   rotate_left
   ·simp only [Act.put,uA_,uB_,uC_,i64_w,i32_w]
    rfl
   refine pure_ (i := 8) (N := some 18) (v := undef) (a' := ?_) #[t_,t_,t_,t_,t_,t_,t_,t_,t_,f_,f_] rfl rfl (any_of HT_.out (by kernel_rfl)) (fun _ _ _ h => h) (Or.inr ⟨by rfl, rfl⟩) ?_ ?_
   rotate_left
   ·simp only [Act.put,uA_,uB_,uC_,i64_w,i32_w]
    rfl
   refine pure_ (i := 9) (N := some 19) (v := ?_) (a' := ?_) #[t_,t_,t_,t_,t_,t_,t_,t_,t_,t_,f_] rfl rfl (any_of HT_.out (by kernel_rfl)) (fun _ _ _ h => h) (Or.inl ⟨by rfl, ?_⟩) ?_ ?_
   rotate_left
   ·intro w'
    go_simp
    with_reducible rfl
   rotate_left
   ·simp only [Act.put,uA_,uB_,uC_,i64_w,i32_w]
    rfl
   refine pure_ (i := 10) (N := some 4) (v := ?_) (a' := ?_) #[t_,t_,t_,t_,t_,t_,t_,t_,t_,t_,t_] rfl rfl (any_of HT_.out (by kernel_rfl)) (fun _ _ _ h => h) (Or.inl ⟨by rfl, ?_⟩) ?_ ?_
   rotate_left
   ·intro w'
    go_simp
    with_reducible rfl
   rotate_left
   ·simp only [Act.put,uA_,uB_,uC_,i64_w,i32_w]
    rfl
   refine done_ (done_of HT_.out (by kernel_rfl)) ?_
   try go_wp2
   go_ret
   exact ⟨by first | rfl | (simp [errW_none, errW_some] <;> rfl) | (simp [*, errW_none, errW_some] <;> rfl), by repeat (first | (with_reducible first | exact HB.out | apply bA_ | apply bB_ | apply bC_ | refine below_set ?_ GE406.out) | exact HB.out)⟩
end Go.Proofs.YtfgbkklhjocmjaaDoor.Xq
namespace Go.Proofs.YtfgbkklhjocmjaaDoor.Xq
open Go.RowKit Go.Proofs.YtfgbkklhjocmjaaDoorW.PrintWords
variable {α β : Type}
theorem evPos {c : Prop} [Decidable c] {f g : Nat → Option α} {r : α} (hc : c) (h : Ev f r) : Ev (fun n => if c then f n else g n) r := by
  obtain ⟨K, h⟩ := h
  refine ⟨K, fun k hk => ?_⟩
  show (if c then f k else g k) = _
  rw [if_pos hc]
  exact h k hk
theorem evNeg {c : Prop} [Decidable c] {f g : Nat → Option α} {r : α} (hc : ¬ c) (h : Ev g r) : Ev (fun n => if c then f n else g n) r := by
  obtain ⟨K, h⟩ := h
  refine ⟨K, fun k hk => ?_⟩
  show (if c then f k else g k) = _
  rw [if_neg hc]
  exact h k hk
theorem evK {x : Option α} {r : α} (h : x = some r) : Ev (fun _ => x) r := ⟨0, fun _ _ => h⟩
theorem evSome {x r : α} (h : x = r) : Ev (fun _ => some x) r := evK (congrArg some h)
theorem evBind {g : Nat → Option α} {f : Nat → α → Option β} {a : α} {r : β} (h : Ev g a) (k : Ev (fun n => f n a) r) : Ev (fun n => (g n).bind (f n)) r := by
  obtain ⟨K, h⟩ := h
  obtain ⟨J, k⟩ := k
  refine ⟨max K J, fun n hn => ?_⟩
  show (g n).bind (f n) = _
  rw [h n (Nat.le_trans (Nat.le_max_left _ _) hn), Option.bind_some]
  exact k n (Nat.le_trans (Nat.le_max_right _ _) hn)
theorem evBindK {x : Option α} {f : Nat → α → Option β} {a : α} {r : β} (h : x = some a) (k : Ev (fun n => f n a) r) : Ev (fun n => x.bind (f n)) r := evBind (evK h) k
theorem evStep {g f : Nat → Option α} {r : α} (h : ∀ k, g (k + 1) = f k) (k : Ev f r) : Ev g r := by
  obtain ⟨K, k⟩ := k
  refine ⟨K + 1, fun n hn => ?_⟩
  obtain ⟨m, rfl⟩ : ∃ m, n = m + 1 := ⟨n - 1, by omega⟩
  rw [h m]
  exact k m (by omega)
theorem evEq {g : Nat → Option α} {r s : α} (h : Ev g r) (e : r = s) : Ev g s := e ▸ h
theorem evCase {c : Prop} [Decidable c] {f g : Nat → Option α} {r s : α} (h : c → Ev f r) (k : ¬ c → Ev g s) : Ev (fun n => if c then f n else g n) (if c then r else s) := by
  by_cases hc : c
  · rw [if_pos hc]; exact evPos hc (h hc)
  · rw [if_neg hc]; exact evNeg hc (k hc)
end Go.Proofs.YtfgbkklhjocmjaaDoor.Xq
namespace Go.Proofs.YtfgbkklhjocmjaaDoor.Xq
open Go.RowKit Go.Lib Go.Sort Go.Proofs.YtfgbkklhjocmjaaDoorW.PrintWords Go.Proofs.YtfgbkklhjocmjaaDoorW.PrintLast Go.Proofs.YtfgbkklhjocmjaaDoor.Gv
theorem S53_ext {x y : S53} (h0 : x.f0 = y.f0) (h1 : x.f1 = y.f1) : x = y := by cases x; cases y; simp_all
instance decS53 : DecidableEq S53 := fun x y => decidable_of_iff (x.f0 = y.f0 ∧ x.f1 = y.f1) ⟨fun h => S53_ext h.1 h.2, fun h => by subst h; exact ⟨rfl, rfl⟩⟩
theorem ltE_LtP {x y : S53} : ltE x y = true ↔ LtP (toP x) (toP y) := by rw [ltE_iff]; rfl
theorem less_eq (x y : S53) : r4_less.f x.f0 x.f1 y.f0 y.f1 = some (ltE x y) := by
  unfold r4_less.f ltE
  by_cases h : x.f0 < y.f0
  · simp [h]
  · by_cases h2 : x.f0 = y.f0
    · simp [h, h2]
    · simp [h, h2]
def Asc (l : List S53) : Prop := l.Pairwise fun a b => ltE a b = true
theorem asc_toP {l : List S53} : Asc l ↔ (l.map toP).Pairwise LtP := by
  unfold Asc
  rw [List.pairwise_map]
  exact ⟨fun h => h.imp fun h => ltE_LtP.1 h, fun h => h.imp fun h => ltE_LtP.2 h⟩
theorem dedupE_eq {l m : List S53} (hm : Asc m) (h : ∀ x, x ∈ m ↔ x ∈ l) : dedupE l = m := by
  unfold dedupE
  rw [sortDedup_eq (asc_toP.1 hm) (fun x => ?_)]
  · rw [List.map_map]; exact List.map_id' _
  · constructor
    · intro hx
      obtain ⟨y, hy, rfl⟩ := List.mem_map.1 hx
      exact List.mem_map.2 ⟨y, (h y).1 hy, rfl⟩
    · intro hx
      obtain ⟨y, hy, rfl⟩ := List.mem_map.1 hx
      exact List.mem_map.2 ⟨y, (h y).2 hy, rfl⟩
theorem within_alt (n : Int) (x : S53) : withinB n x = false ↔ x.f0 < 0 ∨ x.f0 ≥ n ∨ x.f1 < 0 ∨ x.f1 ≥ n := by
  have := @within_iff n x
  cases h : withinB n x with
  | true => have := this.1 h; simp; omega
  | false =>
    rw [h] at this
    simp at this
    simp
    omega
theorem drop_iff {α : Type} (a b : List α) (i : Nat) (ha : i < a.length) (hb : i < b.length) : a.drop i = b.drop i ↔ a[i] = b[i] ∧ a.drop (i + 1) = b.drop (i + 1) := by
  rw [List.drop_eq_getElem_cons ha, List.drop_eq_getElem_cons hb, List.cons.injEq]
theorem exE : dedupE [⟨1, 2⟩, ⟨0, 1⟩, ⟨1, 2⟩] = [⟨0, 1⟩, ⟨1, 2⟩] := dedupE_eq (by unfold Asc; decide) (fun x => by simp only [List.mem_cons, List.not_mem_nil, or_false]; constructor; (rintro (h | h) <;> simp [h]); (rintro (h | h | h) <;> simp [h]))
theorem ex_make : graph_Make.f 3 [⟨1, 2⟩, ⟨0, 1⟩, ⟨1, 2⟩] = some (3, [⟨0, 1⟩, ⟨1, 2⟩], 0) := by
  unfold graph_Make.f
  rw [if_neg (by decide), if_neg (by decide), if_neg (by decide), if_pos (by decide), exE, if_neg (by decide)]
theorem ex_chk : chk 3 [⟨0, 1⟩, ⟨1, 2⟩] = 0 := by decide
theorem nodup_map_ {α β : Type} {f : α → β} (hf : ∀ a b, f a = f b → a = b) {l : List α} (h : l.Nodup) : (l.map f).Nodup := by
  rw [List.nodup_iff_pairwise_ne] at h ⊢
  rw [List.pairwise_map]
  exact h.imp (fun hne e => hne (hf _ _ e))
theorem srtP_perm (d : Array (Int × Int)) : (srtP d).toList.Perm d.toList := by
  obtain ⟨hp, hs⟩ := pdq_sorts (ltOf cmpP) swoP d 0 d.size (Lib.bitLen d.size) true true (Nat.zero_le _) (Nat.le_refl _) (Or.inl rfl)
  change PermIn 0 d.size d (srtP d) at hp
  have z := hp.2.2
  rw [Array.extract_eq_self_of_le (Nat.le_refl _), Array.extract_eq_self_of_le (by rw [hp.1]; exact Nat.le_refl _)] at z
  exact z
theorem sortE_perm (l : List S53) : (sortE l).Perm l := by
  unfold sortE
  have := (srtP_perm (l.map toP).toArray).map ofP
  simpa [List.map_map, show (ofP ∘ toP) = id from rfl] using this
theorem sortE_asc {l : List S53} (h : l.Nodup) : Asc (sortE l) := by
  have hn : (sortE l).Nodup := (sortE_perm l).nodup_iff.2 h
  obtain ⟨hs, _⟩ := srtP_spec (l.map toP).toArray
  rw [asc_toP]
  have e : (sortE l).map toP = (srtP (l.map toP).toArray).toList := by
    unfold sortE
    rw [List.map_map, show (toP ∘ ofP) = id from rfl, List.map_id]
  have hn2 : (srtP (l.map toP).toArray).toList.Nodup := by
    rw [← e]
    exact nodup_map_ (fun a b hab => by cases a; cases b; simpa [toP] using hab) hn
  rw [e]
  have hz := srtP_size (l.map toP).toArray
  generalize srtP (l.map toP).toArray = s at hs hn2 hz
  rw [List.pairwise_iff_getElem]
  intro i j hi hj hij
  have hi' : i < s.size := by simpa using hi
  have hj' : j < s.size := by simpa using hj
  have h1 := hs i j hij (by rw [← hz]; exact hj')
  rw [getElem!_pos s i hi', getElem!_pos s j hj'] at h1
  refine LtP.of_ne h1 (fun e => ?_)
  have := (List.nodup_iff_pairwise_ne.1 hn2)
  rw [List.pairwise_iff_getElem] at this
  exact this i j hi hj hij e
theorem asc_ext {l m : List S53} (hl : Asc l) (hm : Asc m) (h : ∀ x, x ∈ l ↔ x ∈ m) : l = m := by
  rw [← dedupE_eq hl (fun x => Iff.rfl), dedupE_eq hm (fun x => (h x).symm)]
theorem sortE_eq {l m : List S53} (h : l.Nodup) (hm : Asc m) (he : ∀ x, x ∈ m ↔ x ∈ l) : sortE l = m := asc_ext (sortE_asc h) hm (fun x => ((sortE_perm l).mem_iff).trans (he x).symm)
theorem ex_sort : sortE ([⟨0, 1⟩, ⟨1, 2⟩].map swapE) = [⟨1, 0⟩, ⟨2, 1⟩] := sortE_eq (by decide) (by unfold Asc; decide) (fun x => by simp [swapE])
theorem ex_path : graph_Path.f 3 [⟨0, 1⟩, ⟨1, 2⟩] 0 2 = some ([0, 1, 2], true) := by
  unfold graph_Path.f
  rw [if_pos ⟨⟨by decide, by decide, ex_chk⟩, by decide, by decide⟩, ex_sort]
  kernel_rfl
theorem ex_reach : graph_Reach.f 3 [⟨0, 1⟩, ⟨1, 2⟩] [1] = some [1, 2] := by
  unfold graph_Reach.f
  rw [if_pos ex_chk, if_pos (by decide)]
  kernel_rfl
theorem awake_eq : w4_awake.f = some true := by
  unfold w4_awake.f
  rw [ex_make, Option.bind_some, ex_path, Option.bind_some]
  simp [ex_reach]
end Go.Proofs.YtfgbkklhjocmjaaDoor.Xq
namespace Go.Proofs.YtfgbkklhjocmjaaDoor.Xq
open Go.RowKit Go.Shelf Go.Proofs.YtfgbkklhjocmjaaDoorW.PrintWords Go.Proofs.YtfgbkklhjocmjaaDoorW.PrintLast Go.Proofs.YtfgbkklhjocmjaaDoor.Gv
theorem mem_succL {l : List S53} {v w : Int} : w ∈ succL l v ↔ (⟨v, w⟩ : S53) ∈ l := by
  unfold succL
  rw [List.mem_map]
  constructor
  · rintro ⟨x, hx, rfl⟩
    rw [List.mem_filter] at hx
    obtain ⟨h1, h2⟩ := hx
    have h2 : x.f0 = v := by simpa using h2
    subst h2
    exact h1
  · intro h
    exact ⟨_, List.mem_filter.2 ⟨h, by simp⟩, rfl⟩
inductive Way (l : List S53) : Nat → Int → Int → Prop
  | nil (v : Int) : Way l 0 v v
  | snoc {k : Nat} {v w x : Int} : Way l k v w → x ∈ succL l w → Way l (k + 1) v x
def Rch (l : List S53) (v w : Int) : Prop := ∃ k, Way l k v w
theorem Rch.refl (l : List S53) (v : Int) : Rch l v v := ⟨0, .nil v⟩
theorem Rch.step {l : List S53} {v w x : Int} (h : Rch l v w) (hx : x ∈ succL l w) : Rch l v x := h.elim fun k hk => ⟨k + 1, hk.snoc hx⟩
theorem Way.trans {l : List S53} {j : Nat} {u v : Int} (h : Way l j u v) : ∀ {k : Nat} {w : Int}, Way l k v w → Way l (j + k) u w
  | _, _, .nil _ => h
  | _, _, .snoc h1 hx => .snoc (h.trans h1) hx
theorem Rch.trans {l : List S53} {u v w : Int} (h : Rch l u v) (k : Rch l v w) : Rch l u w := by
  obtain ⟨a, ha⟩ := h
  obtain ⟨b, hb⟩ := k
  exact ⟨a + b, ha.trans hb⟩
theorem Way.cons {l : List S53} {u v : Int} (hx : v ∈ succL l u) {k : Nat} {w : Int} (h : Way l k v w) : Way l (k + 1) u w := by
  have := (Way.snoc (Way.nil u) hx).trans h
  rwa [show 0 + 1 + k = k + 1 by omega] at this
def negs (far : List Int) : Nat := far.countP fun x => decide (x < 0)
theorem negs_set : ∀ {b : List Int} {i : Nat} {x : Int}, b.getD i 0 < 0 → 0 ≤ x → negs (b.set i x) + 1 = negs b
  | [], i, x, h, _ => by simp at h
  | y :: r, 0, x, h, hx => by
    have h : y < 0 := by simpa using h
    unfold negs
    rw [List.set_cons_zero, List.countP_cons_of_neg (by simpa using hx), List.countP_cons_of_pos (by simpa using h)]
  | y :: r, i + 1, x, h, hx => by
    have ih := negs_set (b := r) (i := i) (x := x) (by simpa using h) hx
    unfold negs at ih ⊢
    rw [List.set_cons_succ, List.countP_cons, List.countP_cons]
    omega
theorem negs_le (far : List Int) : negs far ≤ far.length := List.countP_le_length
theorem rd_set {xs : List Int} {i j : Int} {x : Int} (hi : 0 ≤ i) (hj : 0 ≤ j) (hl : i < xs.length) : rd (xs.set i.toNat x) j = if i = j then x else rd xs j := by
  unfold rd
  by_cases h : i = j
  · subst h
    rw [if_pos rfl]
    have : i.toNat < xs.length := by omega
    simp [List.getD, this]
  · have : i.toNat ≠ j.toNat := by omega
    rw [if_neg h]
    simp [List.getD, List.getElem?_set_ne this]
def Inn (n : Nat) (l : List S53) : Prop := ∀ v w : Int, w ∈ succL l v → 0 ≤ v ∧ v < n ∧ 0 ≤ w ∧ w < n
structure BF (n : Nat) (l : List S53) (src : Int → Prop) (N : Int) (far work : List Int) : Prop where
  len : far.length = n
  wk : ∀ v ∈ work, 0 ≤ v ∧ v < n ∧ 0 ≤ rd far v
  bd : ∀ v : Int, 0 ≤ v → v < n → rd far v + negs far ≤ N
  lo : ∀ v : Int, 0 ≤ v → v < n → -1 ≤ rd far v
  cl : ∀ v : Int, 0 ≤ v → v < n → 0 ≤ rd far v → v ∉ work → ∀ w ∈ succL l v, 0 ≤ rd far w ∧ rd far w ≤ rd far v + 1
  srt : work.Pairwise fun a b => rd far a ≤ rd far b
  hd : ∀ h ∈ work.head?, ∀ v : Int, 0 ≤ v → v < n → rd far v ≤ rd far h + 1
  st : ∀ v : Int, 0 ≤ v → v < n → 0 ≤ rd far v → v ∉ work → ∀ h ∈ work, rd far v ≤ rd far h
  so : ∀ v : Int, 0 ≤ v → v < n → 0 ≤ rd far v → (rd far v = 0 ∧ src v) ∨ ∃ u : Int, 0 ≤ u ∧ u < n ∧ v ∈ succL l u ∧ 0 ≤ rd far u ∧ rd far v = rd far u + 1
  ss : ∀ v : Int, src v → 0 ≤ v → v < n → rd far v = 0
  nd : work.Nodup
section
variable {n : Nat} {l : List S53} {src : Int → Prop} {N : Int} {far : List Int}
theorem BF.push {v w : Int} {r : List Int} (h : BF n l src N far (v :: r)) (hN : N ≤ 1000000) (hE : Inn n l) (hw : w ∈ succL l v) (hf : rd far w < 0) :
    BF n l src N (far.set w.toNat (wrap64 (rd far v + 1))) (v :: (r ++ [w])) ∧ negs (far.set w.toNat (wrap64 (rd far v + 1))) + 1 = negs far := by
  obtain ⟨_, _, w0, w1⟩ := hE v w hw
  obtain ⟨v0, v1, v2⟩ := h.wk v List.mem_cons_self
  have hb := h.bd v v0 v1
  have e : wrap64 (rd far v + 1) = rd far v + 1 := by unfold wrap64; omega
  rw [e]
  have hlw : w < far.length := by rw [h.len]; exact w1
  have hneg : negs (far.set w.toNat (rd far v + 1)) + 1 = negs far := negs_set (by unfold rd at hf; exact hf) (by omega)
  have R : ∀ u : Int, 0 ≤ u → rd (far.set w.toNat (rd far v + 1)) u = if w = u then rd far v + 1 else rd far u := fun u hu => rd_set w0 hu hlw
  have same : ∀ u : Int, 0 ≤ u → 0 ≤ rd far u → rd (far.set w.toNat (rd far v + 1)) u = rd far u := fun u hu hs => by
    rw [R u hu, if_neg (fun e => by subst e; omega)]
  have hmem : ∀ u ∈ v :: r, rd (far.set w.toNat (rd far v + 1)) u = rd far u := fun u hu => same u (h.wk u hu).1 (h.wk u hu).2.2
  have hcons : v :: (r ++ [w]) = (v :: r) ++ [w] := rfl
  have hwn : w ∉ v :: r := fun hm => by have := (h.wk w hm).2.2; omega
  refine ⟨⟨by rw [List.length_set]; exact h.len, ?_, ?_, ?_, ?_, ?_, ?_, ?_, ?_, ?_, ?_⟩, hneg⟩
  · intro u hu
    rw [hcons, List.mem_append, List.mem_singleton] at hu
    rcases hu with hu | rfl
    · rw [hmem u hu]; exact h.wk u hu
    · rw [R u w0, if_pos rfl]; exact ⟨w0, w1, by omega⟩
  · intro u u0 u1
    rw [R u u0]
    split
    · omega
    · have := h.bd u u0 u1; omega
  · intro u u0 u1
    rw [R u u0]
    split
    · omega
    · exact h.lo u u0 u1
  · intro u u0 u1 u2 hu x hx
    rw [hcons, List.mem_append, List.mem_singleton, not_or] at hu
    rw [R u u0, if_neg (Ne.symm hu.2)] at u2 ⊢
    obtain ⟨h1, h2⟩ := h.cl u u0 u1 u2 hu.1 x hx
    rw [same x (hE u x hx).2.2.1 h1]
    exact ⟨h1, h2⟩
  · rw [hcons, List.pairwise_append]
    refine ⟨?_, List.pairwise_singleton _ _, ?_⟩
    · refine List.Pairwise.imp_of_mem ?_ h.srt
      intro a b ha hb hab
      rw [hmem a ha, hmem b hb]
      exact hab
    · intro a ha b hb
      rw [List.mem_singleton] at hb
      subst hb
      rw [hmem a ha, R b w0, if_pos rfl]
      exact h.hd v rfl a (h.wk a ha).1 (h.wk a ha).2.1
  · intro a ha u u0 u1
    obtain rfl : v = a := by simpa using ha
    rw [hmem v List.mem_cons_self, R u u0]
    split
    · omega
    · exact h.hd v rfl u u0 u1
  · intro u u0 u1 u2 hu a ha
    rw [hcons, List.mem_append, List.mem_singleton, not_or] at hu
    rw [R u u0, if_neg (Ne.symm hu.2)] at u2 ⊢
    rw [hcons, List.mem_append, List.mem_singleton] at ha
    rcases ha with ha | rfl
    · rw [hmem a ha]; exact h.st u u0 u1 u2 hu.1 a ha
    · rw [R a w0, if_pos rfl]
      have := h.st u u0 u1 u2 hu.1 v List.mem_cons_self
      omega
  · intro u u0 u1 u2
    rw [R u u0] at u2 ⊢
    by_cases e : w = u
    · subst e
      rw [if_pos rfl]
      exact .inr ⟨v, v0, v1, hw, by rw [hmem v List.mem_cons_self]; exact v2, by rw [hmem v List.mem_cons_self]⟩
    · rw [if_neg e] at u2 ⊢
      rcases h.so u u0 u1 u2 with h1 | ⟨y, y0, y1, y2, y3, y4⟩
      · exact .inl h1
      · exact .inr ⟨y, y0, y1, y2, by rw [same y y0 y3]; exact y3, by rw [same y y0 y3]; exact y4⟩
  · intro u hs u0 u1
    have := h.ss u hs u0 u1
    rw [same u u0 (by omega), this]
  · rw [hcons, List.nodup_append]
    refine ⟨h.nd, by simp, ?_⟩
    intro a ha b hb e
    rw [List.mem_singleton] at hb
    subst hb
    subst e
    exact hwn ha
theorem BF.bstep {v w : Int} {r : List Int} (h : BF n l src N far (v :: r)) (hN : N ≤ 1000000) (hE : Inn n l) (hw : w ∈ succL l v) :
    BF n l src N (bstep v (far, r) w).1 (v :: (bstep v (far, r) w).2) ∧ negs (bstep v (far, r) w).1 + (bstep v (far, r) w).2.length = negs far + r.length ∧
      rd (bstep v (far, r) w).1 v = rd far v ∧ 0 ≤ rd (bstep v (far, r) w).1 w ∧ (∀ u : Int, 0 ≤ u → 0 ≤ rd far u → rd (bstep v (far, r) w).1 u = rd far u) ∧ (∀ x ∈ r, x ∈ (bstep v (far, r) w).2) := by
  obtain ⟨_, _, w0, w1⟩ := hE v w hw
  obtain ⟨v0, v1, v2⟩ := h.wk v List.mem_cons_self
  have hb := h.bd v v0 v1
  have e : wrap64 (rd far v + 1) = rd far v + 1 := by unfold wrap64; omega
  have hlw : w < far.length := by rw [h.len]; exact w1
  unfold Xq.bstep
  by_cases hf : rd far w < 0
  · rw [if_pos (show rd (far, r).1 w < 0 from hf)]
    obtain ⟨h1, h2⟩ := h.push hN hE hw hf
    refine ⟨h1, by simp; omega, ?_, ?_, ?_, by simp; intro x hx; exact .inl hx⟩
    · show rd (far.set w.toNat (wrap64 (rd far v + 1))) v = rd far v
      rw [rd_set w0 v0 hlw, if_neg (fun e => by subst e; omega)]
    · show 0 ≤ rd (far.set w.toNat (wrap64 (rd far v + 1))) w
      rw [rd_set w0 w0 hlw, if_pos rfl, e]
      omega
    · intro u u0 u1
      show rd (far.set w.toNat (wrap64 (rd far v + 1))) u = rd far u
      rw [rd_set w0 u0 hlw, if_neg (fun e => by subst e; omega)]
  · rw [if_neg (show ¬ rd (far, r).1 w < 0 from hf)]
    exact ⟨h, rfl, rfl, by show 0 ≤ rd far w; omega, fun _ _ _ => rfl, fun _ hx => hx⟩
theorem BF.bsteps {v : Int} (hN : N ≤ 1000000) (hE : Inn n l) : ∀ (xs : List Int) (far r : List Int), (∀ x ∈ xs, x ∈ succL l v) → BF n l src N far (v :: r) →
    BF n l src N (xs.foldl (Xq.bstep v) (far, r)).1 (v :: (xs.foldl (Xq.bstep v) (far, r)).2) ∧ negs (xs.foldl (Xq.bstep v) (far, r)).1 + (xs.foldl (Xq.bstep v) (far, r)).2.length = negs far + r.length ∧
      (∀ x ∈ xs, 0 ≤ rd (xs.foldl (Xq.bstep v) (far, r)).1 x) ∧ (∀ u : Int, 0 ≤ u → 0 ≤ rd far u → rd (xs.foldl (Xq.bstep v) (far, r)).1 u = rd far u) := by
  intro xs
  induction xs with
  | nil => intro far r _ h; exact ⟨h, rfl, by simp, fun _ _ _ => rfl⟩
  | cons x xs ih =>
    intro far r hx h
    rw [List.foldl_cons]
    have hxs := hx x List.mem_cons_self
    obtain ⟨h1, h2, h3, h4, h5, h6⟩ := h.bstep hN hE hxs
    obtain ⟨g1, g2, g3, g4⟩ := ih _ _ (fun y hy => hx y (List.mem_cons_of_mem _ hy)) h1
    rw [Prod.eta] at g1 g2 g3 g4
    refine ⟨g1, by omega, ?_, ?_⟩
    · intro y hy
      rcases List.mem_cons.1 hy with rfl | hy
      · rw [g4 y (hE v y hxs).2.2.1 h4]; exact h4
      · exact g3 y hy
    · intro u u0 u1
      rw [g4 u u0 (by rw [h5 u u0 u1]; exact u1), h5 u u0 u1]
theorem BF.round {v : Int} {r : List Int} (h : BF n l src N far (v :: r)) (hN : N ≤ 1000000) (hE : Inn n l) :
    BF n l src N ((succL l v).foldl (Xq.bstep v) (far, r)).1 ((succL l v).foldl (Xq.bstep v) (far, r)).2 ∧
      negs ((succL l v).foldl (Xq.bstep v) (far, r)).1 + ((succL l v).foldl (Xq.bstep v) (far, r)).2.length = negs far + r.length := by
  obtain ⟨h1, h2, h3, h4⟩ := BF.bsteps hN hE (succL l v) far r (fun _ hx => hx) h
  refine ⟨?_, h2⟩
  generalize (succL l v).foldl (Xq.bstep v) (far, r) = s at h1 h2 h3 h4 ⊢
  obtain ⟨v0, v1, v2⟩ := h1.wk v List.mem_cons_self
  have hnd := List.nodup_cons.1 h1.nd
  have hp := List.pairwise_cons.1 h1.srt
  refine ⟨h1.len, fun u hu => h1.wk u (List.mem_cons_of_mem _ hu), h1.bd, h1.lo, ?_, hp.2, ?_, ?_, h1.so, h1.ss, hnd.2⟩
  · intro u u0 u1 u2 hu w hw
    by_cases e : u = v
    · subst e
      exact ⟨h3 w hw, h1.hd u rfl w (hE u w hw).2.2.1 (hE u w hw).2.2.2⟩
    · exact h1.cl u u0 u1 u2 (by rw [List.mem_cons, not_or]; exact ⟨e, hu⟩) w hw
  · intro a ha u u0 u1
    have ham : a ∈ s.2 := by
      cases hs : s.2 with
      | nil => rw [hs] at ha; simp at ha
      | cons b t => rw [hs] at ha; simp at ha; simp [ha]
    have := h1.hd v rfl u u0 u1
    have := hp.1 a ham
    omega
  · intro u u0 u1 u2 hu a ha
    by_cases e : u = v
    · subst e; exact hp.1 a ha
    · exact h1.st u u0 u1 u2 (by rw [List.mem_cons, not_or]; exact ⟨e, hu⟩) a (List.mem_cons_of_mem _ ha)
theorem BF.run (hN : N ≤ 1000000) (hE : Inn n l) (hn : n ≤ 100000) : ∀ (k : Nat) (far work : List Int), BF n l src N far work → negs far + work.length < k → negs far + work.length ≤ n →
    ∃ ws, distF l k (far, work) = some ws ∧ BF n l src N ws [] := by
  intro k
  induction k with
  | zero => intro far work h hk; omega
  | succ k ih =>
    intro far work h hk hn2
    match work, h, hk, hn2 with
    | [], h, hk, hn2 => exact ⟨far, rfl, h⟩
    | v :: r, h, hk, hn2 =>
      obtain ⟨h1, h2⟩ := h.round hN hE
      rw [List.length_cons] at hk hn2
      obtain ⟨ws, h3, h4⟩ := ih _ _ h1 (by omega) (by omega)
      refine ⟨ws, ?_, h4⟩
      unfold distF
      simp only
      rw [if_pos (by omega), ← h3]
theorem BF.back {ws : List Int} (h : BF n l src N ws []) : ∀ (d : Nat) (v : Int), 0 ≤ v → v < n → rd ws v = d → ∃ s, src s ∧ 0 ≤ s ∧ s < n ∧ Way l d s v
  | 0, v, v0, v1, hd => by
    rcases h.so v v0 v1 (by omega) with ⟨_, h1⟩ | ⟨u, _, _, _, h2, h3⟩
    · exact ⟨v, h1, v0, v1, .nil _⟩
    · omega
  | d + 1, v, v0, v1, hd => by
    rcases h.so v v0 v1 (by omega) with ⟨h1, _⟩ | ⟨u, u0, u1, u2, h2, h3⟩
    · omega
    · obtain ⟨s, h4, h5, h6, h7⟩ := h.back d u u0 u1 (by omega)
      exact ⟨s, h4, h5, h6, h7.snoc u2⟩
end
structure BI (n : Nat) (src : Int → Prop) (far work : List Int) : Prop where
  len : far.length = n
  lo : ∀ v : Int, 0 ≤ v → v < n → rd far v = -1 ∨ rd far v = 0
  wk : ∀ v : Int, v ∈ work ↔ (0 ≤ v ∧ v < n ∧ rd far v = 0)
  so : ∀ v : Int, 0 ≤ v → v < n → (rd far v = 0 ↔ src v)
  nd : work.Nodup
  cnt : negs far + work.length ≤ n
theorem rd_rep {n : Nat} {x v : Int} (v0 : 0 ≤ v) (v1 : v < n) : rd (List.replicate n x) v = x := by
  have : v.toNat < n := by omega
  unfold rd
  simp [List.getD, this]
theorem BI.start (n : Nat) : BI n (fun _ => False) (List.replicate n (-1)) [] := by
  refine ⟨by simp, fun v v0 v1 => .inl (rd_rep v0 v1), ?_, ?_, List.nodup_nil, ?_⟩
  · intro v
    constructor
    · intro h; cases h
    · rintro ⟨a, b, c⟩
      rw [rd_rep a b] at c
      omega
  · intro v v0 v1
    rw [rd_rep v0 v1]
    simp
  · have := negs_le (List.replicate n (-1 : Int))
    rw [List.length_replicate] at this
    simpa using this
end Go.Proofs.YtfgbkklhjocmjaaDoor.Xq
namespace Go.Proofs.YtfgbkklhjocmjaaDoor.Xq
open Go.RowKit Go.Shelf Go.Proofs.YtfgbkklhjocmjaaDoorW.PrintWords Go.Proofs.YtfgbkklhjocmjaaDoorW.PrintLast Go.Proofs.YtfgbkklhjocmjaaDoor.Gv
def AscI (l : List Int) : Prop := l.Pairwise fun a b => a < b
theorem ascI_ext : ∀ {l m : List Int}, AscI l → AscI m → (∀ x, x ∈ l ↔ x ∈ m) → l = m
  | [], [], _, _, _ => rfl
  | [], y :: m, _, _, h => absurd ((h y).2 List.mem_cons_self) (by simp)
  | x :: l, [], _, _, h => absurd ((h x).1 List.mem_cons_self) (by simp)
  | x :: l, y :: m, hl, hm, h => by
    obtain ⟨h1, h2⟩ := List.pairwise_cons.1 hl
    obtain ⟨h3, h4⟩ := List.pairwise_cons.1 hm
    have e : x = y := by
      rcases List.mem_cons.1 ((h x).1 List.mem_cons_self) with e | e
      · exact e
      · rcases List.mem_cons.1 ((h y).2 List.mem_cons_self) with e' | e'
        · exact e'.symm
        · have := h1 y e'
          have := h3 x e
          omega
    subst e
    rw [ascI_ext h2 h4 (fun z => ?_)]
    constructor
    · intro hz
      rcases List.mem_cons.1 ((h z).1 (List.mem_cons_of_mem _ hz)) with e | e
      · have := h1 z hz; omega
      · exact e
    · intro hz
      rcases List.mem_cons.1 ((h z).2 (List.mem_cons_of_mem _ hz)) with e | e
      · have := h3 z hz; omega
      · exact e
def those (n : Nat) (p : Nat → Bool) : List Int := ((List.range n).filter p).map fun x : Nat => (x : Int)
theorem mem_those {n : Nat} {p : Nat → Bool} {v : Int} : v ∈ those n p ↔ 0 ≤ v ∧ v < n ∧ p v.toNat = true := by
  unfold those
  rw [List.mem_map]
  constructor
  · rintro ⟨x, hx, rfl⟩
    rw [List.mem_filter, List.mem_range] at hx
    exact ⟨by omega, by omega, by simpa using hx.2⟩
  · rintro ⟨a, b, c⟩
    exact ⟨v.toNat, List.mem_filter.2 ⟨List.mem_range.2 (by omega), c⟩, by omega⟩
theorem those_asc (n : Nat) (p : Nat → Bool) : AscI (those n p) := by
  unfold those AscI
  rw [List.pairwise_map]
  refine List.Pairwise.imp (R := fun a b : Nat => a < b) (fun {a b} h => by omega) ?_
  exact List.Pairwise.filter _ List.pairwise_lt_range
def free (n : Nat) (ws : List Nat) : Nat := (List.range n).countP fun x => !hasN ws x
theorem countP_one {p q : Nat → Bool} {v : Nat} (hp : p v = true) (hq : ∀ x, q x = (p x && decide (x ≠ v))) : ∀ n : Nat, (List.range n).countP q + (if v < n then 1 else 0) = (List.range n).countP p
  | 0 => by simp
  | n + 1 => by
    have ih := countP_one hp hq n
    rw [List.range_succ, List.countP_append, List.countP_append, List.countP_singleton, List.countP_singleton, hq n]
    rcases Nat.lt_trichotomy v n with h | h | h
    · rw [if_pos h] at ih
      rw [if_pos (show v < n + 1 by omega), show decide (n ≠ v) = true by simp; omega, Bool.and_true]
      omega
    · subst h
      rw [if_neg (Nat.lt_irrefl v)] at ih
      rw [if_pos (show v < v + 1 by omega), hp, show decide (v ≠ v) = false by simp, Bool.and_false]
      simp
      omega
    · rw [if_neg (show ¬ v < n by omega)] at ih
      rw [if_neg (show ¬ v < n + 1 by omega), show decide (n ≠ v) = true by simp; omega, Bool.and_true]
      omega
theorem free_set {n : Nat} {ws : List Nat} {v : Nat} (hl : v / 64 < ws.length) (hv : v < n) (hn : hasN ws v = false) : free n (setN ws v) + 1 = free n ws := by
  have := countP_one (p := fun x => !hasN ws x) (q := fun x => !hasN (setN ws v) x) (v := v) (by simp [hn]) (fun x => by
    rw [hasN_setN ws v x hl]
    simp) n
  rw [if_pos hv] at this
  exact this
structure Adds (n : Nat) (ws : List Nat) (wk : List Int) (xs : List Int) (s : List Nat × List Int) : Prop where
  len : s.1.length = ws.length
  lt : ∀ y ∈ s.1, y < 18446744073709551616
  has : ∀ x : Nat, hasN s.1 x = true ↔ hasN ws x = true ∨ ((x : Int) ∈ xs ∧ x < n)
  mem : ∀ v : Int, v ∈ s.2 ↔ v ∈ wk ∨ (v ∈ xs ∧ 0 ≤ v ∧ v < n ∧ hasN ws v.toNat = false)
  cnt : free n s.1 + s.2.length = free n ws + wk.length
theorem addFs_spec (n : Nat) : ∀ (xs : List Int) (ws : List Nat) (wk : List Int), ws.length = n / 64 + 1 → (∀ y ∈ ws, y < 18446744073709551616) → Adds n ws wk xs (xs.foldl (addF n) (ws, wk)) := by
  intro xs
  induction xs with
  | nil => intro ws wk hl hlt; exact ⟨rfl, hlt, fun x => by simp, fun v => by simp, rfl⟩
  | cons x xs ih =>
    intro ws wk hl hlt
    rw [List.foldl_cons]
    by_cases hx : 0 ≤ x ∧ x < n ∧ hasN ws x.toNat = false
    · have e : addF n (ws, wk) x = (setN ws x.toNat, wk ++ [x]) := by unfold addF; rw [if_pos hx]
      rw [e]
      obtain ⟨x0, x1, x2⟩ := hx
      have hq : x.toNat / 64 < ws.length := by omega
      have hs := fun y => hasN_setN ws x.toNat y hq
      obtain ⟨h1, h2, h3, h4, h5⟩ := ih (setN ws x.toNat) (wk ++ [x]) (by rw [setN_len, hl]) (setN_lt ws x.toNat hlt)
      refine ⟨by rw [h1, setN_len], h2, fun y => ?_, fun v => ?_, ?_⟩
      · rw [h3, hs]
        simp only [Bool.or_eq_true, decide_eq_true_eq, List.mem_cons]
        constructor
        · rintro ((h | rfl) | ⟨h, g⟩)
          · exact .inl h
          · exact .inr ⟨.inl (by omega), by omega⟩
          · exact .inr ⟨.inr h, g⟩
        · rintro (h | ⟨h | h, g⟩)
          · exact .inl (.inl h)
          · exact .inl (.inr (by omega))
          · exact .inr ⟨h, g⟩
      · rw [h4, hs, List.mem_append, List.mem_singleton, List.mem_cons, Bool.or_eq_false_iff, decide_eq_false_iff_not]
        constructor
        · rintro ((h | rfl) | ⟨h, g0, g1, g2, g3⟩)
          · exact .inl h
          · exact .inr ⟨.inl rfl, x0, x1, x2⟩
          · exact .inr ⟨.inr h, g0, g1, g2⟩
        · rintro (h | ⟨h | h, g0, g1, g2⟩)
          · exact .inl (.inl h)
          · exact .inl (.inr h)
          · by_cases e : v = x
            · exact .inl (.inr e)
            · exact .inr ⟨h, g0, g1, g2, by omega⟩
      · have := free_set hq (show x.toNat < n by omega) x2
        rw [h5, List.length_append, List.length_singleton]
        omega
    · have e : addF n (ws, wk) x = (ws, wk) := by unfold addF; rw [if_neg hx]
      rw [e]
      obtain ⟨h1, h2, h3, h4, h5⟩ := ih ws wk hl hlt
      refine ⟨h1, h2, fun y => ?_, fun v => ?_, h5⟩
      · rw [h3, List.mem_cons]
        constructor
        · rintro (h | ⟨h, g⟩)
          · exact .inl h
          · exact .inr ⟨.inr h, g⟩
        · rintro (h | ⟨h | h, g⟩)
          · exact .inl h
          · subst h
            have h2 : ¬ hasN ws y = false := fun h2 => hx ⟨by omega, by omega, by simpa using h2⟩
            exact .inl (by simpa using h2)
          · exact .inr ⟨h, g⟩
      · rw [h4, List.mem_cons]
        constructor
        · rintro (h | ⟨h, g⟩)
          · exact .inl h
          · exact .inr ⟨.inr h, g⟩
        · rintro (h | ⟨h | h, g⟩)
          · exact .inl h
          · subst h; exact absurd g hx
          · exact .inr ⟨h, g⟩
structure RF (n : Nat) (l : List S53) (src : Int → Prop) (ws : List Nat) (wk : List Int) : Prop where
  len : ws.length = n / 64 + 1
  lt : ∀ y ∈ ws, y < 18446744073709551616
  rg : ∀ x : Nat, hasN ws x = true → x < n
  wkn : ∀ v ∈ wk, 0 ≤ v ∧ hasN ws v.toNat = true
  cl : ∀ x : Nat, hasN ws x = true → (x : Int) ∉ wk → ∀ w ∈ succL l x, hasN ws w.toNat = true
  so : ∀ x : Nat, hasN ws x = true → ∃ s, src s ∧ 0 ≤ s ∧ s < n ∧ Rch l s x
  ss : ∀ s, src s → 0 ≤ s → s < n → hasN ws s.toNat = true
theorem RF.round {n : Nat} {l : List S53} {src : Int → Prop} {ws : List Nat} {r : List Int} {v : Int} (hE : Inn n l) (h : RF n l src ws (r ++ [v])) :
    RF n l src ((succL l v).foldl (addF n) (ws, r)).1 ((succL l v).foldl (addF n) (ws, r)).2 ∧ free n ((succL l v).foldl (addF n) (ws, r)).1 + ((succL l v).foldl (addF n) (ws, r)).2.length = free n ws + r.length := by
  have a := addFs_spec n (succL l v) ws r h.len h.lt
  generalize (succL l v).foldl (addF n) (ws, r) = s at a ⊢
  obtain ⟨v0, hv⟩ := h.wkn v (by simp)
  have up : ∀ x : Nat, hasN ws x = true → hasN s.1 x = true := fun x hx => (a.has x).2 (.inl hx)
  have sc : ∀ w ∈ succL l v, hasN s.1 w.toNat = true := fun w hw => by
    obtain ⟨_, _, w0, w1⟩ := hE v w hw
    exact (a.has _).2 (.inr ⟨by rwa [show ((w.toNat : Nat) : Int) = w by omega], by omega⟩)
  refine ⟨⟨a.len.trans h.len, a.lt, ?_, ?_, ?_, ?_, fun s hs s0 s1 => up _ (h.ss s hs s0 s1)⟩, a.cnt⟩
  · intro x hx
    rcases (a.has x).1 hx with h1 | ⟨_, h1⟩
    · exact h.rg x h1
    · exact h1
  · intro w hw
    rcases (a.mem w).1 hw with h1 | ⟨h1, h2, h3, h4⟩
    · obtain ⟨h2, h3⟩ := h.wkn w (by simp [h1])
      exact ⟨h2, up _ h3⟩
    · exact ⟨h2, sc w h1⟩
  · intro x hx hxn w hw
    have hxr : (x : Int) ∉ r := fun hm => hxn ((a.mem _).2 (.inl hm))
    by_cases e : (x : Int) = v
    · rw [e] at hw; exact sc w hw
    · rcases (a.has x).1 hx with h1 | ⟨h1, h2⟩
      · exact up _ (h.cl x h1 (by simp [hxr, e]) w hw)
      · by_cases hn : hasN ws x = true
        · exact up _ (h.cl x hn (by simp [hxr, e]) w hw)
        · exact absurd ((a.mem _).2 (.inr ⟨h1, by omega, by omega, by simpa using hn⟩)) hxn
  · intro x hx
    rcases (a.has x).1 hx with h1 | ⟨h1, h2⟩
    · exact h.so x h1
    · obtain ⟨s, g1, g2, g3, g4⟩ := h.so v.toNat hv
      rw [show ((v.toNat : Nat) : Int) = v by omega] at g4
      exact ⟨s, g1, g2, g3, g4.step h1⟩
theorem RF.run {n : Nat} {l : List S53} {src : Int → Prop} (hE : Inn n l) (hn : n ≤ 100000) : ∀ (k : Nat) (ws : List Nat) (wk : List Int), RF n l src ws wk → free n ws + wk.length < k → free n ws + wk.length ≤ n →
    ∃ r, reachF n l k (ws, wk) = some r ∧ RF n l src r [] := by
  intro k
  induction k with
  | zero => intro ws wk h hk; omega
  | succ k ih =>
    intro ws wk h hk hn2
    unfold reachF
    by_cases he : wk = []
    · subst he
      exact ⟨ws, by rw [if_pos rfl], h⟩
    · rw [if_neg he, if_pos (show wk.length ≤ 100000 by omega)]
      obtain ⟨r, v, rfl⟩ : ∃ r v, wk = r ++ [v] := ⟨wk.dropLast, wk.getLast he, (List.dropLast_concat_getLast he).symm⟩
      obtain ⟨h1, h2⟩ := h.round hE
      rw [List.length_append, List.length_singleton] at hk hn2
      simp only [List.getLast?_concat, Option.getD_some, List.dropLast_concat]
      exact ih _ _ h1 (by omega) (by omega)
end Go.Proofs.YtfgbkklhjocmjaaDoor.Xq
namespace Go.Proofs.YtfgbkklhjocmjaaDoor.Xq
open Go.RowKit Go.Proofs.YtfgbkklhjocmjaaDoorW.PrintWords Go.Proofs.YtfgbkklhjocmjaaDoorW.PrintLast Go.Proofs.YtfgbkklhjocmjaaDoor.Gv
theorem refCheck_j2 (n : Int) (l : List S53) (i : Nat) (hi : i < l.length) (hl : l.length ≤ 32768) (R : Int) (ih : Ev (fun k => r4_Check.l0 k ((i + 1 : Nat) : Int) n l) R) :
    ∀ b : Bool, Ev (fun k => r4_Check.j2 k (i : Int) b n l l[i].f0 l[i].f1) (if b = true then 4 else if (match (if i = 0 then none else some (rd_T53 l ((i : Int) - 1))) with | none => false | some y => !ltE y l[i]) = true then 13 else R) := by
  intro b
  refine evStep (fun k => by rw [r4_Check.j2]) ?_
  refine evCase (fun _ => evSome rfl) (fun _ => ?_)
  have hw : wrap64 ((i : Int) + 1) = ((i + 1 : Nat) : Int) := by unfold wrap64; omega
  rw [hw]
  by_cases h0 : i = 0
  · subst h0
    refine evNeg (by omega) ?_
    rw [if_pos rfl]
    simpa using ih
  · have hw2 : wrap64 ((i : Int) - 1) = ((i - 1 : Nat) : Int) := by unfold wrap64; omega
    have e2 : (i : Int) - 1 = ((i - 1 : Nat) : Int) := by omega
    rw [hw2, if_neg h0, e2]
    refine evPos (by omega) (evPos (by omega) (evPos (by omega) ?_))
    rw [rd_at' (show i - 1 < l.length by omega)]
    refine evBindK (less_eq _ _) ?_
    by_cases hc : ltE l[i - 1] l[i] = true
    · refine evPos hc ?_
      simpa [hc] using ih
    · refine evNeg hc (evSome ?_)
      simp at hc
      simp [hc]
theorem refCheck_l0 (n : Int) (l : List S53) (hl : l.length ≤ 32768) : ∀ (d i : Nat), i + d = l.length →
    Ev (fun k => r4_Check.l0 k (i : Int) n l) (chkL n (if i = 0 then none else some (rd_T53 l ((i : Int) - 1))) (l.drop i)) := by
  intro d
  induction d with
  | zero =>
    intro i hi
    refine evStep (fun k => by rw [r4_Check.l0]) ?_
    refine evNeg (by omega) (evSome ?_)
    rw [List.drop_eq_nil_of_le (by omega)]
    simp only [chkL]
  | succ d ih =>
    intro i hi
    have hlt : i < l.length := by omega
    have IH := ih (i + 1) (by omega)
    rw [if_neg (show ¬ i + 1 = 0 by omega), show ((i + 1 : Nat) : Int) - 1 = (i : Int) by omega, rd_at' hlt] at IH
    have J := refCheck_j2 n l i hlt hl _ IH
    refine evStep (fun k => by rw [r4_Check.l0]) ?_
    rw [rd_at' hlt]
    refine evPos (by omega) (evPos (by omega) ?_)
    rw [List.drop_eq_getElem_cons hlt, chkL_cons]
    have W := within_alt n l[i]
    by_cases h1 : l[i].f0 < 0
    · refine evPos h1 (evEq (J true) ?_)
      rw [if_pos rfl, if_pos (W.2 (.inl h1))]
    · refine evNeg h1 ?_
      by_cases h2 : l[i].f0 ≥ n
      · refine evPos h2 (evEq (J true) ?_)
        rw [if_pos rfl, if_pos (W.2 (.inr (.inl h2)))]
      · refine evNeg h2 ?_
        by_cases h3 : l[i].f1 < 0
        · refine evPos h3 (evEq (J true) ?_)
          rw [if_pos rfl, if_pos (W.2 (.inr (.inr (.inl h3))))]
        · refine evNeg h3 (evEq (J _) ?_)
          by_cases h4 : l[i].f1 ≥ n
          · have e1 : decide (l[i].f1 ≥ n) = true := by simpa using h4
            have e2 : withinB n l[i] = false := W.2 (.inr (.inr (.inr h4)))
            rw [if_pos e1, if_pos e2]
          · have e1 : ¬ decide (l[i].f1 ≥ n) = true := by simpa using h4
            have e2 : ¬ withinB n l[i] = false := fun h => by have := W.1 h; omega
            rw [if_neg e1, if_neg e2]
            rfl
theorem refCheck_ev (n : Int) (l : List S53) : Ev (fun k => r4_Check.f k n l) (chk n l) := by
  unfold r4_Check.f chk
  refine evCase (fun _ => evSome rfl) (fun h0 => evCase (fun h1 => ?_) (fun h1 => ?_))
  · exact evStep (fun k => by rw [r4_Check.j0]) (evPos rfl (evSome rfl))
  · refine evStep (fun k => by rw [r4_Check.j0]) ?_
    by_cases h3 : (l.length : Int) > 32768
    · rw [if_pos h3]
      exact evPos (by simpa using h3) (evSome rfl)
    · rw [if_neg h3]
      refine evNeg (by simpa using h3) ?_
      have := refCheck_l0 n l (by omega) l.length 0 (by omega)
      simpa using this
def nodeB (n : Int) (l : List S53) (v : Int) : Bool := decide (0 ≤ v ∧ v < n ∧ chk n l = 0)
theorem refNode_ev (n : Int) (l : List S53) (v : Int) : Ev (fun k => r4_Node.f k n l v) (nodeB n l v) := by
  unfold r4_Node.f nodeB
  refine evBind (refCheck_ev n l) ?_
  by_cases h : chk n l = 0
  · refine evPos h ?_
    by_cases h1 : v ≥ 0
    · refine evPos h1 (evSome ?_)
      rw [decide_eq_decide]
      omega
    · refine evNeg h1 (evSome ?_)
      exact (decide_eq_false (fun hc => h1 hc.1)).symm
  · refine evNeg h (evSome ?_)
    exact (decide_eq_false (fun hc => h hc.2.2)).symm
theorem take_succ' {α : Type} {l : List α} {i : Nat} (h : i < l.length) : l.take (i + 1) = l.take i ++ [l[i]] := List.take_succ_eq_append_getElem h
theorem succL_take {l : List S53} {v : Int} {i : Nat} (h : i < l.length) : succL (l.take (i + 1)) v = succL (l.take i) v ++ (if l[i].f0 = v then [l[i].f1] else []) := by
  rw [take_succ' h]
  unfold succL
  rw [List.filter_append, List.map_append]
  congr 1
  by_cases e : l[i].f0 = v
  · rw [if_pos e, List.filter_cons_of_pos (by simpa using e)]; rfl
  · rw [if_neg e, List.filter_cons_of_neg (by simpa using e)]; rfl
theorem succL_len (l : List S53) (v : Int) : (succL l v).length ≤ l.length := by
  unfold succL
  rw [List.length_map]
  exact List.length_filter_le _ _
theorem refEqual_l0 (a b : List Int) (hab : a.length = b.length) (hl : a.length ≤ 10000000) : ∀ (d i : Nat), i + d = a.length → Ev (fun k => r4_Equal.l0 k a b (i : Int)) (decide (a.drop i = b.drop i)) := by
  intro d
  induction d with
  | zero =>
    intro i hi
    refine evStep (fun k => by rw [r4_Equal.l0]) (evNeg (by omega) (evSome ?_))
    rw [List.drop_eq_nil_of_le (by omega), List.drop_eq_nil_of_le (by omega)]
    simp
  | succ d ih =>
    intro i hi
    have ha : i < a.length := by omega
    have hb : i < b.length := by omega
    have hw : wrap64 ((i : Int) + 1) = ((i + 1 : Nat) : Int) := by unfold wrap64; omega
    refine evStep (fun k => by rw [r4_Equal.l0]) (evPos (by omega) (evPos (by omega) (evPos (by omega) ?_)))
    rw [show rd a (i : Int) = a[i] by simp [rd, ha], show rd b (i : Int) = b[i] by simp [rd, hb], hw]
    by_cases h : a[i] = b[i]
    · refine evPos h (evEq (ih (i + 1) (by omega)) ?_)
      rw [decide_eq_decide, drop_iff a b i ha hb]
      simp [h]
    · refine evNeg h (evSome ?_)
      exact (decide_eq_false (fun hc => h ((drop_iff a b i ha hb).1 hc).1)).symm
theorem refEqual_ev (a b : List Int) (hl : a.length ≤ 10000000) : Ev (fun k => r4_Equal.f k a b) (decide (a = b)) := by
  unfold r4_Equal.f
  by_cases h : a.length = b.length
  · refine evPos (by omega) ?_
    have := refEqual_l0 a b h hl a.length 0 (by omega)
    simpa using this
  · refine evNeg (by omega) (evSome ?_)
    exact (decide_eq_false (fun e => h (by rw [e]))).symm
theorem refEqual_same {a b : List Int} (e : a = b) (hl : a.length ≤ 10000000) : Ev (fun k => r4_Equal.f k a b) true := evEq (refEqual_ev a b hl) (decide_eq_true e)
end Go.Proofs.YtfgbkklhjocmjaaDoor.Xq
namespace Go.Proofs.YtfgbkklhjocmjaaDoor.Xq
open Go.RowKit Go.Proofs.YtfgbkklhjocmjaaDoorW.PrintWords Go.Proofs.YtfgbkklhjocmjaaDoorW.PrintLast Go.Proofs.YtfgbkklhjocmjaaDoor.Gv
theorem rdN {a : List Int} {i : Nat} (h : i < a.length) : rd a (i : Int) = a[i] := by simp [rd, h]
theorem wrapN {i : Nat} (h : i ≤ 1000000000) : wrap64 ((i : Int) + 1) = ((i + 1 : Nat) : Int) := by unfold wrap64; omega
def listsOf (n : Nat) (l : List S53) : List (List Int) := (List.range n).map fun v : Nat => succL l v
theorem listsOf_length (n : Nat) (l : List S53) : (listsOf n l).length = n := by simp [listsOf]
theorem rd_lists {n : Nat} {l : List S53} {v : Int} (v0 : 0 ≤ v) (v1 : v < n) : rd_L5 (listsOf n l) v = succL l v := by
  have h : v.toNat < n := by omega
  unfold rd_L5 listsOf
  rw [List.getD_eq_getElem?_getD, List.getElem?_map, List.getElem?_range h]
  simp [show ((v.toNat : Nat) : Int) = v by omega]
theorem lists_set {n : Nat} {l : List S53} {i : Nat} (hi : i < l.length) (h0 : 0 ≤ l[i].f0) (h1 : l[i].f0 < n) : (listsOf n (l.take i)).set l[i].f0.toNat (succL (l.take i) l[i].f0 ++ [l[i].f1]) = listsOf n (l.take (i + 1)) := by
  apply List.ext_getElem
  · simp [listsOf]
  · intro j hj hj2
    have hjn : j < n := by simpa [listsOf] using hj2
    rw [List.getElem_set]
    by_cases e : l[i].f0.toNat = j
    · rw [if_pos e]
      simp only [listsOf, List.getElem_map, List.getElem_range]
      have e2 : (j : Int) = l[i].f0 := by omega
      rw [e2, succL_take hi, if_pos rfl]
    · rw [if_neg e]
      simp only [listsOf, List.getElem_map, List.getElem_range]
      rw [succL_take hi, if_neg (by omega), List.append_nil]
theorem refLists_l0 (n : Nat) (m : Int) (l : List S53) (hl : l.length ≤ 1000000) (hE : ∀ x ∈ l, 0 ≤ x.f0 ∧ x.f0 < n) : ∀ (d i : Nat), i + d = l.length → Ev (fun k => r4_Lists.l0 k (listsOf n (l.take i)) (i : Int) m l) (listsOf n l) := by
  intro d
  induction d with
  | zero =>
    intro i hi
    refine evStep (fun k => by rw [r4_Lists.l0]) (evNeg (by omega) (evSome ?_))
    rw [List.take_of_length_le (by omega)]
  | succ d ih =>
    intro i hi
    have hlt : i < l.length := by omega
    obtain ⟨h0, h1⟩ := hE _ (List.getElem_mem hlt)
    have hlen := succL_len (l.take i) l[i].f0
    rw [List.length_take] at hlen
    refine evStep (fun k => by rw [r4_Lists.l0]) (evPos (by omega) (evPos (by omega) ?_))
    rw [rd_at' hlt, wrapN (by omega), rd_lists h0 h1, listsOf_length, lists_set hlt h0 h1]
    exact evPos h0 (evPos h1 (evPos (by omega) (ih (i + 1) (by omega))))
theorem refLists_ev (n : Nat) (hn : n ≤ 1000000) (l : List S53) (hl : l.length ≤ 1000000) (hE : ∀ x ∈ l, 0 ≤ x.f0 ∧ x.f0 < n) : Ev (fun k => r4_Lists.f k n l) (listsOf n l) := by
  unfold r4_Lists.f
  refine evPos (by omega) (evPos (by omega) ?_)
  have := refLists_l0 n n l hl hE l.length 0 (by omega)
  have e : listsOf n (l.take 0) = List.replicate (n : Int).toNat [] := by
    apply List.ext_getElem
    · simp [listsOf]
    · intro j _ _
      simp [listsOf, succL]
  rw [e] at this
  exact this
theorem Valid.inn {n : Nat} {l : List S53} (h : Valid n l) : Inn n l := fun v w hw => by
  obtain ⟨a, b, c, d⟩ := h.succ_lt hw
  exact ⟨c, d, a, b⟩
theorem those_len (n : Nat) (p : Nat → Bool) : (those n p).length ≤ n := by
  unfold those
  rw [List.length_map]
  exact Nat.le_trans (List.length_filter_le _ _) (by simp)
def IsReach (n : Nat) (l : List S53) (from_ out : List Int) : Prop := AscI out ∧ ∀ v : Int, v ∈ out ↔ 0 ≤ v ∧ v < n ∧ ∃ s, s ∈ from_ ∧ 0 ≤ s ∧ s < n ∧ Rch l s v
theorem isReach_len {n : Nat} {l : List S53} {from_ out : List Int} (h : IsReach n l from_ out) : out = those n fun x => decide ((x : Int) ∈ out) := ascI_ext h.1 (those_asc _ _) (fun v => by
  rw [mem_those]
  constructor
  · intro hv
    obtain ⟨a, b, _⟩ := (h.2 v).1 hv
    exact ⟨a, b, by simpa [show ((v.toNat : Nat) : Int) = v by omega] using hv⟩
  · rintro ⟨a, b, c⟩
    simpa [show ((v.toNat : Nat) : Int) = v by omega] using c)
theorem IsReach.len {n : Nat} {l : List S53} {from_ out : List Int} (h : IsReach n l from_ out) : out.length ≤ n := by
  rw [isReach_len h]
  exact those_len _ _
end Go.Proofs.YtfgbkklhjocmjaaDoor.Xq
