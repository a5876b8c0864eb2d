/- The contract of slices.Compact at pairs: equal neighbours are struck, the rest of the row is cleared. Condition: the row lies in a block of the call's own. -/
import Derived.Test.YtdbnlmhffbopoaaXq1
import Derived.Test.YtdbnlmhffbopoaaGvRow
import Derived.WalkKit
import Derived.KernelRfl
import Derived.Deep.LoopGhost
import Derived.Deep.Draws
import Derived.Deep.QuietTactic
import Derived.BigQuiet
import Derived.Below
import Derived.Outline
import Derived.Lib.Walk
import Derived.Lib.SliceRun
import Derived.Lib.SlicesCompact
import Derived.Shelf.GgSortFunc.RowK
set_option linter.unusedVariables false
set_option linter.unusedSimpArgs false
namespace Go.Proofs.Ytdbnlmhffbopoaa.Gv
open Go.RowKit Go.Lib Go.Sort Go.Proofs.Ytdbnlmhffbopoaa.Xq
attribute [local go_sem high] eqA44

set_option maxHeartbeats 1000000 in
theorem compact_calls (blk off cap : Nat) (d : Array (Int × Int)) (w : World) (hH : HoldsK encP 2 w blk off d) (hcap : d.size ≤ cap) (hsz : d.size ≤ 4611686018427387904) :
    Calls Try.prog 44 #[.slice (some ⟨blk, off, none⟩) d.size cap] w fun e w' => e = .returned (.slice (some ⟨blk, off, none⟩) (compactUpTo d d.size).length cap) ∧ ∃ q, w' = putRowK encP 2 (Sort.ahead w q) blk off (compactUpTo d d.size ++ List.replicate (d.size - (compactUpTo d d.size).length) (0, 0)).toArray := by
  have same : ∀ q, (∀ j, j < d.size → keeps d j = true) → (compactUpTo d d.size).length = d.size ∧ w.drewN q = putRowK encP 2 (Sort.ahead w q) blk off (compactUpTo d d.size ++ List.replicate (d.size - (compactUpTo d d.size).length) (0, 0)).toArray := by
    intro q hall
    have e : compactUpTo d d.size = d.toList := by rw [compactUpTo_all d _ hall, range_map_get]
    rw [e]
    refine ⟨by simp, ?_⟩
    simp only [Array.length_toList, Nat.sub_self, List.replicate_zero, List.append_nil, Array.toArray_toList]
    exact (putRowK_self encP 2 (Sort.ahead w q) blk off d (holdsK_ahead encP 2 w q blk off d hH)).symm
  have HS := As2.mk same
  clear same
  by_cases h2 : d.size < 2
  · have HH := As2.mk hH
    clear hH
    go_enter Try.func44, Try.ntmps44
    go_wp2
    go_ret
    obtain ⟨e1, e2⟩ := HS.out 0 (fun j hj => keeps_lt_one d j (by omega))
    exact ⟨by rw [e1]; rfl, 0, e2⟩
  · go_enter Try.func44, Try.ntmps44
    go_wp2
    go_loopg [3] d.size (fun g s3 wr => ∃ k q : Nat, 1 ≤ k ∧ k ≤ d.size ∧ d.size - k ≤ g ∧ s3 = .int .i64 k ∧ wr = w.drewN q ∧ As2 (∀ j, j < k → keeps d j = true))
    case atStart => exact ⟨1, 0, Nat.le_refl _, by omega, by omega, rfl, rfl, ⟨keeps_lt_one d⟩⟩
    case round =>
      obtain ⟨k, q, hk1, hk, hg, rfl, rfl, A⟩ := hrel
      have HH := As2.mk hH
      clear hH
      by_cases hlt : k < d.size
      · obtain ⟨j, rfl⟩ : ∃ j, k = j + 1 := ⟨k - 1, by omega⟩
        obtain ⟨x, hx⟩ : ∃ x, d[j + 1]! = x := ⟨_, rfl⟩
        obtain ⟨y, hy⟩ : ∃ y, d[j]! = y := ⟨_, rfl⟩
        have c1 := (HH.out.cell (i := j + 1) (c := 0) hlt (by omega)).1
        have c2 := (HH.out.cell (i := j + 1) (c := 1) hlt (by omega)).1
        have c3 := (HH.out.cell (i := j) (c := 0) (by omega) (by omega)).1
        have c4 := (HH.out.cell (i := j) (c := 1) (by omega) (by omega)).1
        rw [hx] at c1 c2
        rw [hy] at c3 c4
        simp only [encP, Nat.add_zero, List.getElem!_cons_zero, List.getElem!_cons_succ] at c1 c2 c3 c4
        have B := As2.mk (And.intro hx hy)
        clear hx hy
        have E := eqP x y
        by_cases hdup : x = y
        · have E1 : (x.1 == y.1 && x.2 == y.2) = true := by rw [E]; simpa using hdup
          have HD := As2.mk hdup
          clear hdup E
          go_wp2
          go_quiet (fail)
          go_wp2
          clear c1 c2 c3 c4 E1
          go_loopg [3, 5] d.size (fun g s3 s5 wr => ∃ (kk k2 q2 : Nat) (dk : Array (Int × Int)), s3 = .int .i64 kk ∧ s5 = .int .i64 k2 ∧ 1 ≤ k2 ∧ j + 1 + k2 ≤ d.size ∧ d.size - (j + 1 + k2) ≤ g ∧ As2 (wr = putRowK encP 2 (Sort.ahead w q2) blk off dk) ∧ As2 (CompInv d (j + 1 + k2) kk dk))
          case atStart => exact ⟨j + 1, 1, q + nq, d, rfl, rfl, Nat.le_refl _, by omega, by omega, ⟨(putRowK_self encP 2 (Sort.ahead w (q + nq)) blk off d (holdsK_ahead encP 2 w (q + nq) blk off d HH.out)).symm⟩, ⟨CompInv.start A.out (keeps_neg (by omega) (by rw [B.out.1, Nat.add_sub_cancel, B.out.2, HD.out]))⟩⟩
          case round =>
            obtain ⟨kk, k2, q2, dk, rfl, rfl, h1, hle, hg2, W2, I2⟩ := hrel
            have hkk := I2.out.lt
            have hds := I2.out.size
            have HDS := As2.mk hds
            have hHk : HoldsK encP 2 wr blk off dk := by rw [W2.out]; exact holdsK_putRowK encP 2 _ blk off d dk (holdsK_ahead encP 2 w q2 blk off d HH.out) hds
            have HHk := As2.mk hHk
            clear hHk hds
            by_cases hlt2 : j + 1 + k2 < d.size
            · obtain ⟨i2, rfl⟩ : ∃ i2, k2 = i2 + 1 := ⟨k2 - 1, by omega⟩
              obtain ⟨u, hu⟩ : ∃ u, d[j + 1 + (i2 + 1)]! = u := ⟨_, rfl⟩
              obtain ⟨v, hv⟩ : ∃ v, d[j + 1 + i2]! = v := ⟨_, rfl⟩
              have c1 := (HHk.out.cell (i := j + 1 + (i2 + 1)) (c := 0) (by rw [HDS.out]; omega) (by omega)).1
              have c2 := (HHk.out.cell (i := j + 1 + (i2 + 1)) (c := 1) (by rw [HDS.out]; omega) (by omega)).1
              have c3 := (HHk.out.cell (i := j + 1 + i2) (c := 0) (by rw [HDS.out]; omega) (by omega)).1
              have c4 := (HHk.out.cell (i := j + 1 + i2) (c := 1) (by rw [HDS.out]; omega) (by omega)).1
              have c5 := (HHk.out.cell (i := kk) (c := 0) (by rw [HDS.out]; omega) (by omega))
              have c6 := (HHk.out.cell (i := kk) (c := 1) (by rw [HDS.out]; omega) (by omega))
              rw [I2.out.high _ (by omega), hu, show off + (j + 1 + (i2 + 1)) * 2 = off + (j + 1) * 2 + (i2 + 1) * 2 by omega] at c1 c2
              rw [I2.out.high _ (by omega), hv, show off + (j + 1 + i2) * 2 = off + (j + 1) * 2 + i2 * 2 by omega] at c3 c4
              generalize dk[kk]! = old at c5 c6
              simp only [encP, Nat.add_zero, List.getElem!_cons_zero, List.getElem!_cons_succ] at c1 c2 c3 c4 c5 c6
              obtain ⟨c5, f5⟩ := c5
              obtain ⟨c6, f6⟩ := c6
              have C := As2.mk (And.intro hu hv)
              clear hu hv
              have E := eqP u v
              by_cases huv : u = v
              · have E1 : (u.1 == v.1 && u.2 == v.2) = true := by rw [E]; simpa using huv
                have HD2 := As2.mk huv
                clear huv E
                go_wp2
                go_quiet (fail)
                go_wp2
                go_roundg (d.size - (j + 1 + (i2 + 2)))
                case measure => omega
                case rel => exact ⟨kk, i2 + 2, q2 + nq, dk, rfl, by go_num, by omega, by omega, by omega, ⟨drew_worldP W2.out _⟩, ⟨I2.out.skip (keeps_neg (by omega) (by rw [C.out.1, HD2.out, ← C.out.2]; rfl))⟩⟩
              · have E1 : (u.1 == v.1 && u.2 == v.2) = false := by rw [E]; simpa using huv
                have HD2 := As2.mk huv
                clear huv E
                go_wp2
                go_quiet (fail)
                go_wp2
                go_roundg (d.size - (j + 1 + (i2 + 2)))
                case measure => omega
                case rel => exact ⟨kk + 1, i2 + 2, q2 + nq, dk.setIfInBounds kk u, by go_num, by go_num, by omega, by omega, by omega, ⟨store_worldP (by rw [HDS.out]; omega) (drew_worldP W2.out _) u⟩, ⟨by
                  have z := I2.out.keep hlt2 (keeps_pos (by rw [C.out.1, show j + 1 + (i2 + 1) - 1 = j + 1 + i2 by omega, C.out.2]; exact HD2.out))
                  rwa [C.out.1] at z⟩⟩
            · have hend : j + 1 + k2 = d.size := by omega
              have hcl : ∀ ty, (Builtin.clear_ #[24] ty #[.slice (some ⟨blk, off + kk * 2, none⟩) (d.size - kk) (cap - kk)]).run Try.prog wr = .ok (.tuple #[]) (wr.setCells blk (off + kk * 2) (List.replicate ((d.size - kk) * 2) (.int .i64 0))) :=
                fun ty => run_clear_pairs wr 24 44 ty Try.underlying24 Try.zeroValue44 blk (off + kk * 2) _ _ (by omega)
                  (fun t ht => by
                    have z := (HHk.out.cell (i := kk + t / 2) (c := t % 2) (by rw [HDS.out]; omega) (by omega)).1
                    rw [show off + (kk + t / 2) * 2 + t % 2 = off + kk * 2 + t by omega] at z
                    rw [z]; rfl)
                  (fun t ht => by
                    have z := (HHk.out.cell (i := kk + t / 2) (c := t % 2) (by rw [HDS.out]; omega) (by omega)).2
                    rwa [show off + (kk + t / 2) * 2 + t % 2 = off + kk * 2 + t by omega] at z)
              go_wp2
              go_ret
              have hI := I2.out
              rw [hend] at hI
              refine ⟨by rw [hI.len]; rfl, q2, ?_⟩
              rw [hI.len, ← hI.done (0, 0), ← clear_worldP (by rw [HDS.out]; omega) W2.out]
        · have E1 : (x.1 == y.1 && x.2 == y.2) = false := by rw [E]; simpa using hdup
          have HD := As2.mk hdup
          clear hdup E
          go_wp2
          go_quiet (fail)
          go_wp2
          go_roundg (d.size - (j + 2))
          case measure => omega
          case rel => exact ⟨j + 2, q + nq, by omega, by omega, by omega, by go_num, rfl, ⟨fun i hi => by
            by_cases e : i < j + 1
            · exact A.out i e
            · obtain rfl : i = j + 1 := by omega
              exact keeps_pos (by rw [B.out.1, Nat.add_sub_cancel, B.out.2]; exact HD.out)⟩⟩
      · go_wp2
        go_ret
        obtain ⟨e1, e2⟩ := HS.out q (fun j hj => A.out j (by omega))
        exact ⟨by rw [e1]; rfl, q, e2⟩
end Go.Proofs.Ytdbnlmhffbopoaa.Gv
