/- The contract of slices.BinarySearchFunc at pairs, whatever the comparison says, if what precedes the target stands ahead of what does not. Condition: fewer than 2^62 elements. -/
import Derived.Test.YtdbnlmhffbopoaaGvSorted
import Derived.Deep.LoopGhost
set_option linter.unusedVariables false
set_option linter.unusedSimpArgs false
namespace Go.Proofs.Ytdbnlmhffbopoaa.Xq
open Go.RowKit Go.Proofs.YtdbnlmhffbopoaaW.PrintWords Go.Proofs.Ytdbnlmhffbopoaa.Gv

theorem bsf_calls (tv : Value) (cft : S44 → Int) (g : Nat) (cb : Array Value) (A : Option Addr) (c : Nat) (l : List S44) (w : World)
    (eg : ∀ args w, (callFunc g args).run Try.prog w = .ok (.enter g args) w)
    (hcmp : ∀ W x, Below w.heap.size w W → Calls Try.prog g (#[.agg #[.int .i64 x.f0, .int .i64 x.f1], tv] ++ cb) W fun e w' => e = .returned (.int .i64 (cft x)) ∧ Below W.heap.size W w')
    (hC : Kd.C k44 w A l.length l) (hsz : l.length < 4611686018427387904) (hmono : ∀ a b, a ≤ b → b < l.length → cft (rd_T44 l b) < 0 → cft (rd_T44 l a) < 0) :
    Calls Try.prog 51 #[.slice A l.length c, tv, .func (.func g) #[] cb] w fun e w' => ∃ (i : Nat) (b : Bool), e = .returned (.tuple #[.int .i64 i, .bool b]) ∧ As2 (i ≤ l.length ∧ (∀ t : Nat, t < i → cft (rd_T44 l t) < 0) ∧ (∀ t : Nat, i ≤ t → t < l.length → 0 ≤ cft (rd_T44 l t)) ∧ b = (decide (i < l.length) && decide (cft (rd_T44 l i) = 0))) ∧ Below w.heap.size w w' := by
  have HC := As2.mk hC
  have M := As2.mk hmono
  have HM := As2.mk hcmp
  have S0 := As2.mk (Below.refl w.heap.size w)
  clear hC hmono hcmp
  go_enter Try.func51, Try.ntmps51
  go_wp2
  go_loopg [9, 10] l.length (fun kx s9 s10 wr => ∃ lo hi : Nat, s9 = .int .i64 lo ∧ s10 = .int .i64 hi ∧ lo ≤ hi ∧ hi ≤ l.length ∧ hi - lo ≤ kx ∧ As2 (Below w.heap.size w wr) ∧
    As2 ((∀ t : Nat, t < lo → cft (rd_T44 l t) < 0) ∧ (∀ t : Nat, hi ≤ t → t < l.length → 0 ≤ cft (rd_T44 l t))))
  case atStart => exact ⟨0, l.length, rfl, rfl, Nat.zero_le _, Nat.le_refl _, by omega, S0, ⟨⟨fun t ht => absurd ht (Nat.not_lt_zero _), fun t h1 h2 => by omega⟩⟩⟩
  case round =>
    clear S0
    obtain ⟨lo, hi, rfl, rfl, hlh, hin, hg, S1, I⟩ := hrel
    by_cases hlt : lo < hi
    · obtain ⟨ad, rfl, c0, c1⟩ := at_T44 (Kd.C_below HC.out S1.out) (((lo + hi) / 2 : Nat) : Int) (by omega) (by omega)
      rw [Int.toNat_natCast] at c0 c1
      generalize hy : rd_T44 l (((lo + hi) / 2 : Nat) : Int) = y at c0 c1
      have Y := As2.mk hy
      clear hy
      by_cases hyx : cft y < 0
      · go_wp2_with (refine (HM.out wr y S1.out).mono ?_; rintro e w' ⟨rfl, hb⟩; have S2 := As2.mk (below_step S1.out hb); clear hb)
        go_roundg (hi - ((lo + hi) / 2 + 1))
        case measure => omega
        case rel =>
          have I2 : As2 ((∀ t : Nat, t < (lo + hi) / 2 + 1 → cft (rd_T44 l t) < 0) ∧ (∀ t : Nat, hi ≤ t → t < l.length → 0 ≤ cft (rd_T44 l t))) := ⟨fun t ht => M.out t ((lo + hi) / 2 : Nat) (by omega) (by omega) (by rw [Y.out]; exact hyx), I.out.2⟩
          exact ⟨(lo + hi) / 2 + 1, hi, by rw [show ((lo : Int) + (hi : Int)) / 2 + 1 = (((lo + hi) / 2 + 1 : Nat) : Int) by omega], rfl, by omega, hin, Nat.le_refl _, S2, I2⟩
      · go_wp2_with (refine (HM.out wr y S1.out).mono ?_; rintro e w' ⟨rfl, hb⟩; have S2 := As2.mk (below_step S1.out hb); clear hb)
        go_roundg ((lo + hi) / 2 - lo)
        case measure => omega
        case rel =>
          have I2 : As2 ((∀ t : Nat, t < lo → cft (rd_T44 l t) < 0) ∧ (∀ t : Nat, (lo + hi) / 2 ≤ t → t < l.length → 0 ≤ cft (rd_T44 l t))) := ⟨I.out.1, fun t ht htn => Int.not_lt.1 fun h => by
            have z := M.out ((lo + hi) / 2 : Nat) t (by omega) (by omega) h
            rw [Y.out] at z
            exact absurd z (by omega)⟩
          exact ⟨lo, (lo + hi) / 2, rfl, by rw [show ((lo : Int) + (hi : Int)) / 2 = (((lo + hi) / 2 : Nat) : Int) by omega], by omega, by omega, Nat.le_refl _, S2, I2⟩
    · obtain rfl : hi = lo := by omega
      by_cases hn : hi < l.length
      · obtain ⟨ad, rfl, c0, c1⟩ := at_T44 (Kd.C_below HC.out S1.out) (hi : Int) (by omega) (by omega)
        rw [Int.toNat_natCast] at c0 c1
        generalize hy : rd_T44 l (hi : Int) = y at c0 c1
        have Y := As2.mk hy
        clear hy
        by_cases hyx : cft y = 0
        · have F := As2.mk hyx
          go_wp2_with (refine (HM.out wr y S1.out).mono ?_; rintro e w' ⟨rfl, hb⟩; have S2 := As2.mk (below_step S1.out hb); clear hb)
          go_ret2
          exact ⟨hi, true, rfl, ⟨hin, I.out.1, I.out.2, by rw [Y.out, F.out]; simp [hn]⟩, S2.out⟩
        · have F := As2.mk hyx
          go_wp2_with (refine (HM.out wr y S1.out).mono ?_; rintro e w' ⟨rfl, hb⟩; have S2 := As2.mk (below_step S1.out hb); clear hb)
          go_ret2
          exact ⟨hi, cft y == 0, rfl, ⟨hin, I.out.1, I.out.2, by rw [Y.out]; simp [F.out]⟩, S2.out⟩
      · go_wp2
        go_ret2
        exact ⟨hi, false, rfl, ⟨hin, I.out.1, I.out.2, by simp [hn]⟩, S1.out⟩
end Go.Proofs.Ytdbnlmhffbopoaa.Xq
