/- The contracts of cmp.Compare, cmp.Or and flow.compare at whole numbers and pairs: what they return and what becomes of the world. No condition. -/
import Derived.Test.YtdbnlmhffbopoaaProg
import Derived.WalkKit
import Derived.KernelRfl
import Derived.StillTailTactics
import Derived.LoopTactic
import Derived.Outline
import Derived.Deep.Draws
set_option linter.unusedVariables false
set_option linter.unusedSimpArgs false
namespace Go.Proofs.Ytdbnlmhffbopoaa.Gv
open Go.RowKit

def cmpI (a b : Int) : Int := if a < b then -1 else if b < a then 1 else 0

theorem isNaN_calls (a : Int) (w : World) : Calls Try.prog 55 #[.int .i64 a] w fun e w' => e = .returned (.bool false) ∧ w = w' := by
  go_enter Try.func55, Try.ntmps55
  go_wp2
  go_ret
  exact ⟨rfl, rfl⟩

theorem compare_calls (a b : Int) (w : World) : Calls Try.prog 46 #[.int .i64 a, .int .i64 b] w fun e w' => e = .returned (.int .i64 (cmpI a b)) ∧ w = w' := by
  unfold cmpI
  by_cases h1 : a < b
  · go_enter Try.func46, Try.ntmps46
    go_wp2_with (go_at_call 55; refine (isNaN_calls _ _).mono ?_; rintro e w' ⟨rfl, rfl⟩)
    go_ret
    exact ⟨by simp, rfl⟩
  · by_cases h2 : b < a
    · go_enter Try.func46, Try.ntmps46
      go_wp2_with (go_at_call 55; refine (isNaN_calls _ _).mono ?_; rintro e w' ⟨rfl, rfl⟩)
      go_ret
      exact ⟨by simp, rfl⟩
    · go_enter Try.func46, Try.ntmps46
      go_wp2_with (go_at_call 55; refine (isNaN_calls _ _).mono ?_; rintro e w' ⟨rfl, rfl⟩)
      go_ret
      exact ⟨by simp, rfl⟩

def orI (a b : Int) : Int := if a = 0 then b else a
theorem orI_zero (b : Int) : orI 0 b = b := by simp [orI]
theorem orI_ne {a b : Int} (h : a ≠ 0) : orI a b = a := by simp [orI, h]
theorem or_calls (a b : Int) (g c : Nat) (w : World) (h0 : w.cell? ⟨g, 0, none⟩ = some (.int .i64 a)) (h1 : w.cell? ⟨g, 1, none⟩ = some (.int .i64 b)) : Calls Try.prog 45 #[.slice (some ⟨g, 0, none⟩) 2 c] w fun e w' => e = .returned (.int .i64 (orI a b)) ∧ w = w' := by
  go_enter Try.func45, Try.ntmps45
  go_wp2
  go_loop [8] (fun i => ∃ k : Nat, i = .int .i64 k ∧ k ≤ 2 ∧ (k = 0 ∨ (1 ≤ k ∧ a = 0)) ∧ (k ≤ 1 ∨ b = 0)) (fun i => 2 - (intOf i).toNat)
  case atStart => exact ⟨0, rfl, by omega, by omega, by omega⟩
  case round =>
    obtain ⟨k, rfl, hk, h2, h3⟩ := hrel
    obtain rfl | rfl | rfl : k = 0 ∨ k = 1 ∨ k = 2 := by omega
    · go_wp2
      · have ha : (a != 0) = true := by assumption
        have ha' : a ≠ 0 := by simpa using ha
        go_ret
        exact ⟨by rw [orI_ne ha']; rfl, rfl⟩
      · have ha : (a != 0) = false := by assumption
        have ha' : a = 0 := by simpa using ha
        exact ⟨⟨1, rfl, by omega, by omega, by omega⟩, by simp [intOf]⟩
    · obtain rfl : a = 0 := by omega
      go_wp2
      · go_ret
        exact ⟨by rw [orI_zero]; rfl, rfl⟩
      · have hb : (b != 0) = false := by assumption
        have hb' : b = 0 := by simpa using hb
        exact ⟨⟨2, rfl, by simp, by simp, by simp [hb']⟩, by simp [intOf]⟩
    · obtain rfl : a = 0 := by omega
      obtain rfl : b = 0 := by omega
      go_wp2
      go_ret
      exact ⟨by rw [orI_zero]; rfl, rfl⟩

structure Asd (p : Prop) : Prop where mk :: (out : p)
theorem two_boxes (w : World) (x0 x1 y0 y1 : Value) (h0 : x0.oneCell' = true) (t1 t2 : TypeId) (W : World) (hW : W = ((w.alloc (.cells #[x0, x1] t1)).alloc (.cells #[y0, y1] t2)).drew) :
    W.cell? ⟨w.heap.size, 0, none⟩ = some x0 ∧ W.cell? ⟨w.heap.size, 1, none⟩ = some x1 ∧ W.cell? ⟨w.heap.size + 1, 0, none⟩ = some y0 ∧ W.cell? ⟨w.heap.size + 1, 1, none⟩ = some y1 := by
  subst hW
  refine ⟨?_, ?_, ?_, ?_⟩ <;> go_simp
theorem flow_compare_calls (a0 a1 b0 b1 : Int) (w : World) : Calls Try.prog 31 #[.agg #[.int .i64 a0, .int .i64 a1], .agg #[.int .i64 b0, .int .i64 b1]] w fun e w' => e = .returned (.int .i64 (orI (cmpI a0 b0) (cmpI a1 b1))) ∧ ∃ n o1 o2 o3, w' = (((w.alloc o1).alloc o2).alloc o3).drewN n := by
  go_enter Try.func31, Try.ntmps31
  go_wp2_with fail
  refine wp_region_still_tail 10 (by kernel_rfl) (by kernel_rfl) ?_
  simp only [List.take_succ_cons, List.take_zero, List.drop_succ_cons, List.drop_zero]
  obtain ⟨W, hW⟩ : ∃ W, W = ((w.alloc (.cells #[.int .i64 a0, .int .i64 a1] 44)).alloc (.cells #[.int .i64 b0, .int .i64 b1] 44)).drew := ⟨_, rfl⟩
  obtain ⟨c0, c1, c2, c3⟩ := two_boxes w _ _ _ _ rfl _ _ W hW
  have HW := Asd.mk hW
  change wpStill _ _ (World.drew _) (fun a' => wpList _ _ _ _ a' (World.drew _)) _ _
  rw [← hW]
  clear hW
  still_step
  still_step
  still_step
  still_step
  still_call ((compare_calls _ _ _).mono fun _ _ h => ⟨h.1, h.2.symm⟩)
  still_step
  still_step
  still_step
  still_step
  still_call ((compare_calls _ _ _).mono fun _ _ h => ⟨h.1, h.2.symm⟩)
  refine wpStill_nil ?_
  go_wp2_with (go_at_call 45; refine (or_calls (cmpI a0 b0) (cmpI a1 b1) _ _ _ ?h0 ?h1).mono ?_; (case h0 => go_simp); (case h1 => go_simp); rintro e w' ⟨rfl, rfl⟩)
  go_ret
  exact ⟨rfl, by rw [HW.out]; exact ⟨1, _, _, _, rfl⟩⟩
end Go.Proofs.Ytdbnlmhffbopoaa.Gv
