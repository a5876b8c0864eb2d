/- The contract of flow.Identity: it returns the error or the identity. No condition. -/
import Derived.Test.YtdbnlmhffbopoaaGvMake
set_option linter.unusedVariables false
set_option linter.unusedSimpArgs false
namespace Go.Proofs.Ytdbnlmhffbopoaa.Xq
open Go.RowKit Go.Lib Go.Sort Go.Proofs.YtdbnlmhffbopoaaW.PrintWords Go.Proofs.YtdbnlmhffbopoaaW.PrintLast Go.Proofs.Ytdbnlmhffbopoaa.Gv

def flow_Identity.f (a0 : Int) : Option (List S44 × Int) :=
  if a0 < 1 ∨ a0 > 1024 then some ([], 4) else some (((List.range a0.toNat).map fun d : Nat => (⟨d, d⟩ : S44)), 0)

def idl (n d : Nat) : List (Int × Int) := (List.range n).map fun i : Nat => if i < d then ((i : Int), (i : Int)) else (0, 0)
theorem idl_len (n d : Nat) : (idl n d).length = n := by simp [idl]
theorem idl_zero (n : Nat) : madeCells #[.int .i64 0, .int .i64 0] (n * 2) = flatK encP 2 (idl n 0).toArray := by
  refine ext_get! (by simp [madeCells, idl]) fun t ht => ?_
  have ht' : t < n * 2 := by simpa [madeCells] using ht
  rw [get_flatK _ _ _ _ (by simpa [idl] using ht'), getElem!_pos _ t ht, getElem!_pos _ (t / 2) (by simp [idl]; omega)]
  have : t % 2 = 0 ∨ t % 2 = 1 := by omega
  rcases this with e | e <;> simp [madeCells, idl, e, encP]
theorem idl_succ (n d : Nat) (h : d < n) : (idl n d).toArray.setIfInBounds d ((d : Int), (d : Int)) = (idl n (d + 1)).toArray := by
  apply Array.ext
  · simp [idl]
  · intro i h1 h2
    by_cases c : d = i
    · subst c; simp [idl]
    · have e : (i < d + 1) ↔ (i < d) := by omega
      simp [idl, c, e, Array.getElem_setIfInBounds]
theorem idl_all (n : Nat) : idl n n = (List.range n).map fun i : Nat => ((i : Int), (i : Int)) := by
  unfold idl
  apply List.map_congr_left
  intro i hi
  rw [if_pos (List.mem_range.1 hi)]
theorem block_store {W : World} {g : Nat} {dk : Array (Int × Int)} (h : W.heap[g]? = some (.cells (flatK encP 2 dk) 44 (0, 0))) (i : Nat) (hi : i < dk.size) (x : Int × Int) :
    ((W.setCell ⟨g, i * 2, none⟩ (.int .i64 x.1)).setCell ⟨g, i * 2 + 1, none⟩ (.int .i64 x.2)).heap[g]? = some (.cells (flatK encP 2 (dk.setIfInBounds i x)) 44 (0, 0)) := by
  have z := blk_set (blk_set h (i * 2) (.int .i64 x.1)) (i * 2 + 1) (.int .i64 x.2)
  rw [z, ← setMany_one dk i x hi]
  rfl

set_option maxHeartbeats 1000000 in
theorem flow_Identity.calls (a0 : Int) (r1 : List S44) (r2 : Int) (w : World) (h : flow_Identity.f a0 = some (r1, r2)) :
    Calls Try.prog 11 #[.int .i64 a0] w fun e w' => ∃ v0_ : Value, e = .returned (.tuple #[v0_, .int .i64 r2]) ∧ Kd.R k44 44 w' w.heap.size (fun _ => True) v0_ r1 ∧ RowKit.Below w.heap.size w w' := by
  unfold flow_Identity.f at h
  by_cases h1 : a0 < 1 ∨ a0 > 1024
  · rw [if_pos h1] at h
    obtain ⟨rfl, rfl⟩ := Prod.mk.inj (Option.some.inj h)
    go_enter Try.func11, Try.ntmps11
    go_wp2_with (go_at_call 26; refine (facts_no a0 _ h1).mono ?_; rintro e w' ⟨rfl, rfl⟩)
    go_ret2
    exact ⟨_, rfl, R_empty _ _, RowKit.Below.refl _ _⟩
  rw [if_neg h1] at h
  obtain ⟨n, rfl⟩ := Int.eq_ofNat_of_zero_le (show 0 ≤ a0 by omega)
  have hmk : ∀ W : World, (Instr.makeSlice 24 (.int .i64 (n : Int)) (.int .i64 (n : Int))).run Try.prog W = .ok (.slice (some ⟨W.heap.size, 0, none⟩) n n) (W.alloc (.cells (madeCells #[.int .i64 0, .int .i64 0] (n * 2)) 44)) := by
    intro W
    obtain ⟨i0, hi, hz⟩ := Option.map_eq_some_iff.1 zero44
    simp only [Prod.mk.injEq] at hz
    obtain ⟨hz0, hz1, hz2⟩ := hz
    have z := run_make (P := Try.prog) W 24 44 i0 _ Try.underlying24 hi hz0 .i64 .i64 (n : Int) (n : Int) (by omega) (by omega) (by rw [hz2]; omega) (by omega)
    rw [hz1, Int.toNat_natCast] at z
    exact z
  obtain ⟨hr, rfl⟩ := Prod.mk.inj (Option.some.inj h)
  rw [Int.toNat_natCast] at hr
  have HR := As2.mk hr
  clear h hr
  have g1 : 1 ≤ (n : Int) := by omega
  have g2 : (n : Int) ≤ 1024 := by omega
  clear h1
  go_enter Try.func11, Try.ntmps11
  go_wp2_with (go_at_call 26; refine (facts_yes _ _ g1 g2).mono ?_; rintro e w' ⟨rfl, rfl⟩)
  rw [idl_zero n]
  go_loopw [13] (fun i wr => ∃ d : Nat, i = .int .i64 d ∧ d ≤ n ∧ As2 (wr.heap[w.heap.size]? = some (.cells (flatK encP 2 (idl n d).toArray) 44 (0, 0)) ∧ RowKit.Below w.heap.size w wr)) (fun i _ => n - (intOf i).toNat)
  case atStart => exact ⟨0, rfl, by omega, ⟨heap_alloc_at w _, (RowKit.Below.refl _ _).alloc (Nat.le_refl _) _⟩⟩
  case round =>
    obtain ⟨d, rfl, hd, D⟩ := hrel
    by_cases hlt : d < n
    · have f1 : wr.frozen? ⟨w.heap.size, d * 2, none⟩ = false := blk_frozen D.out.1 _
      have f2 : wr.frozen? ⟨w.heap.size, d * 2 + 1, none⟩ = false := blk_frozen D.out.1 _
      obtain ⟨y1, k1⟩ : ∃ y, wr.cell? ⟨w.heap.size, d * 2, none⟩ = some y := ⟨_, (blk_cell D.out.1 (d * 2)).trans (Array.getElem?_eq_getElem (by simp [idl]; omega))⟩
      obtain ⟨y2, k2⟩ : ∃ y, wr.cell? ⟨w.heap.size, d * 2 + 1, none⟩ = some y := ⟨_, (blk_cell D.out.1 (d * 2 + 1)).trans (Array.getElem?_eq_getElem (by simp [idl]; omega))⟩
      go_wp2
      exact ⟨⟨d + 1, by go_num, by omega, ⟨by rw [← idl_succ n d hlt]; exact block_store D.out.1 d (by simp [idl]; omega) ((d : Int), (d : Int)), (D.out.2.setCell (Nat.le_refl _) _).setCell (Nat.le_refl _) _⟩⟩, by simp [intOf]; omega⟩
    · obtain rfl : d = n := by omega
      go_wp2
      go_ret2
      have hb := D.out.1
      rw [idl_all, show (List.range d).map (fun i : Nat => ((i : Int), (i : Int))) = (List.range d).map (fun i : Nat => ((i : Int), (i : Int))) ++ [] by simp] at hb
      have z := own_of_block hb (Nat.le_refl _) (by simp; rfl) (by unfold maxLen; omega)
      rw [List.length_map, List.length_range, List.map_map, ← HR.out] at *
      exact ⟨_, rfl, z, D.out.2⟩
end Go.Proofs.Ytdbnlmhffbopoaa.Xq
