/- The contract of flow.Make: it returns the error, or the pairs of the facts that live on and are generated. Condition: at most 4398046510000 generated facts. -/
import Derived.Test.YtdbnlmhffbopoaaGvSorted
import Derived.Test.YtdbnlmhffbopoaaXq0
import Derived.Laws.MakeOwn
set_option linter.unusedVariables false
set_option linter.unusedSimpArgs false
namespace Go.Proofs.Ytdbnlmhffbopoaa.Xq
open Go.RowKit Go.Lib Go.Sort Go.Proofs.YtdbnlmhffbopoaaW.PrintWords Go.Proofs.YtdbnlmhffbopoaaW.PrintLast Go.Proofs.Ytdbnlmhffbopoaa.Gv

/-- is an element no fact other than Zero? -/
def badF (n : Int) (l : List Int) : Bool := l.any fun d => decide (d < 1) || decide (d ≥ n)
/-- the pairs of the facts that live on, from d on -/
def liveF (n : Int) (kill : List Int) : List (Int × Int) := (((List.range n.toNat).map fun d : Nat => (d : Int)).filter fun d => decide (1 ≤ d) && !kill.contains d).map fun d => (d, d)
def flow_Make.f (a0 : Int) (l1 l2 : List Int) : Option (List S44 × Int) :=
  if a0 < 1 ∨ a0 > 1024 then some ([], 4) else if badF a0 l1 = true ∨ badF a0 l2 = true then some ([], 4) else
  if l1.length ≤ 4398046510000 then some ((sortDedup ((0, 0) :: (l1.map fun d => (0, d)) ++ liveF a0 l2)).map ofP, 0) else none

theorem gen_succ (l : List Int) (j : Nat) (hj : j < l.length) (x : Int) (hx : x = l[j]) : (((0, 0) :: (l.take j).map fun d => ((0 : Int), d)).map ofP) ++ [(⟨0, x⟩ : S44)] = ((0, 0) :: (l.take (j + 1)).map fun d => ((0 : Int), d)).map ofP := by
  subst hx
  have e : l.take (j + 1) = l.take j ++ [l[j]] := List.take_succ_eq_append_getElem hj
  rw [e]
  simp only [List.map_append, List.map_cons, List.cons_append]
  rfl
theorem liveF_one (l : List Int) : liveF ((1 : Nat) : Int) l = [] := by simp [liveF]
theorem liveF_succ (d : Nat) (l : List Int) : liveF ((d + 1 : Nat) : Int) l = liveF (d : Int) l ++ if (1 ≤ (d : Int) ∧ (d : Int) ∉ l) then [((d : Int), (d : Int))] else [] := by
  unfold liveF
  rw [Int.toNat_natCast, Int.toNat_natCast, List.range_succ, List.map_append, List.filter_append, List.map_append]
  congr 1
  by_cases h : 1 ≤ (d : Int) ∧ (d : Int) ∉ l
  · rw [if_pos h]; simp [h.1, h.2]
  · rw [if_neg h, List.map_singleton, List.filter_cons_of_neg (by simpa using h)]; rfl
theorem liveF_len (d : Nat) (l : List Int) : (liveF (d : Int) l).length ≤ d := by
  unfold liveF
  rw [List.length_map]
  exact Nat.le_trans (List.length_filter_le _ _) (by simp)
theorem Kd.blk_later {W : World} {g : Nat} {o : Obj} (h : W.heap[g]? = some o) (o' : Obj) : (W.alloc o').heap[g]? = some o := blk_below h ((RowKit.Below.refl _ _).alloc (Nat.le_refl _) _)
theorem lit_row {W wr : World} (h : RowKit.Below W.heap.size W wr) : Kd.R k44 44 (wr.alloc (.cells #[.int .i64 0, .int .i64 0] 44)) W.heap.size (fun _ => True) (.slice (some ⟨wr.heap.size, 0, none⟩) 1 1) (((0, 0) :: (List.take 0 ([] : List Int)).map fun d => ((0 : Int), d)).map ofP) := by
  have hb := heap_alloc_at wr (.cells #[.int .i64 0, .int .i64 0] 44)
  have e : (#[Value.int .i64 0, .int .i64 0] : Array Value) = flatK encP 2 ([((0 : Int), (0 : Int))] ++ []).toArray := by rw [← flP_flatK]; rfl
  rw [e] at hb ⊢
  exact own_of_block (D := [(0, 0)]) (Z := []) hb h.size rfl (by decide)
theorem facts_yes (a0 : Int) (w : World) (h1 : 1 ≤ a0) (h2 : a0 ≤ 1024) : Calls Try.prog 26 #[.int .i64 a0] w fun e w' => e = .returned (.bool true) ∧ w = w' := by
  go_enter Try.func26, Try.ntmps26
  go_wp2
  go_ret
  exact ⟨by simp [h2], rfl⟩
theorem facts_no (a0 : Int) (w : World) (h : a0 < 1 ∨ a0 > 1024) : Calls Try.prog 26 #[.int .i64 a0] w fun e w' => e = .returned (.bool false) ∧ w = w' := by
  rcases h with h | h
  · go_enter Try.func26, Try.ntmps26
    go_wp2
    go_ret
    exact ⟨rfl, rfl⟩
  · have h2 : ¬ a0 ≤ 1024 := by omega
    have h3 : 1 ≤ a0 := by omega
    go_enter Try.func26, Try.ntmps26
    go_wp2
    go_ret
    exact ⟨by simp [h2], rfl⟩

theorem zero4 : (Try.prog.info? 4).map (fun i => (i.zero, i.size, i.bytes)) = some (some (.bool false), 1, 1) := by kernel_rfl
theorem R_empty (w' : World) (b : Nat) : Kd.R k44 44 w' b (fun _ => True) (.slice none 0 0) [] := Kd.R_nil _ _ _ _ _
theorem bad_at {n : Int} {l : List Int} {j : Nat} (hj : j < l.length) (h : rd l j < 1 ∨ n ≤ rd l j) : badF n l = true := by
  unfold badF
  rw [List.any_eq_true]
  refine ⟨l[j], List.getElem_mem hj, ?_⟩
  have : rd l (j : Int) = l[j] := by simp [YtdbnlmhffbopoaaW.PrintWords.rd, hj]
  rw [this] at h
  simpa using h
theorem not_bad {n : Int} {l : List Int} (h : ∀ j : Nat, j < l.length → 1 ≤ rd l j ∧ rd l j < n) : badF n l = false := by
  unfold badF
  rw [List.any_eq_false]
  intro x hx
  obtain ⟨j, hj, rfl⟩ := List.mem_iff_getElem.1 hx
  have := h j hj
  have e : rd l (j : Int) = l[j] := by simp [YtdbnlmhffbopoaaW.PrintWords.rd, hj]
  rw [e] at this
  simp; omega

/-- which facts have been killed after j rounds -/
def kl (n : Nat) (l2 : List Int) (j : Nat) : List Bool := (List.range n).map fun i : Nat => decide ((i : Int) ∈ l2.take j)
theorem kl_len (n : Nat) (l2 : List Int) (j : Nat) : (kl n l2 j).length = n := by simp [kl]
theorem kl_zero (n : Nat) (l2 : List Int) : madeCells #[.bool false] n = ((kl n l2 0).map Value.bool).toArray := by
  apply Array.ext
  · simp [madeCells, kl]
  · intro i h1 h2
    simp [madeCells, kl, Nat.mod_one]
theorem kl_succ (n : Nat) (l2 : List Int) (j m : Nat) (hj : j < l2.length) (hm : rd l2 j = (m : Int)) (hmn : m < n) :
    ((kl n l2 j).map Value.bool).toArray.setIfInBounds m (.bool true) = ((kl n l2 (j + 1)).map Value.bool).toArray := by
  have e : l2.take (j + 1) = l2.take j ++ [(m : Int)] := by
    rw [List.take_succ_eq_append_getElem hj]
    have : rd l2 (j : Int) = l2[j] := by simp [YtdbnlmhffbopoaaW.PrintWords.rd, hj]
    rw [← hm, this]
  apply Array.ext
  · simp [kl]
  · intro i h1 h2
    have hi : i < n := by simpa [kl] using h2
    by_cases c : i = m
    · subst c
      simp [kl, e]
    · have c' : m ≠ i := fun h => c h.symm
      have c2 : ¬ ((i : Int) = (m : Int)) := by omega
      simp [Array.getElem_setIfInBounds, kl, e, c', c2]
theorem kl_at (n : Nat) (l2 : List Int) (j i : Nat) (hi : i < n) : ((kl n l2 j).map Value.bool).toArray[i]? = some (.bool (decide ((i : Int) ∈ l2.take j))) := by
  simp [kl, hi]

set_option maxHeartbeats 1000000 in
theorem flow_Make.calls (a0 : Int) (A1 : Option Addr) (c1 : Nat) (l1 : List Int) (A2 : Option Addr) (c2 : Nat) (l2 : List Int) (r1 : List S44) (r2 : Int) (w : World)
    (hr1 : Kd.C (Kd.int .i64) w A1 l1.length l1) (hc1 : l1.length ≤ c1) (hr2 : Kd.C (Kd.int .i64) w A2 l2.length l2) (hc2 : l2.length ≤ c2) (h : flow_Make.f a0 l1 l2 = some (r1, r2)) :
    Calls Try.prog 9 #[.int .i64 a0, .slice A1 l1.length c1, .slice A2 l2.length c2] w fun e w' => ∃ v0_ : Value, e = .returned (.tuple #[v0_, .int .i64 r2]) ∧ Kd.R k44 44 w' w.heap.size (fun _ => True) v0_ r1 ∧ RowKit.Below w.heap.size w w' := by
  unfold flow_Make.f at h
  by_cases h1 : a0 < 1 ∨ a0 > 1024
  · rw [if_pos h1] at h
    obtain ⟨rfl, rfl⟩ := Prod.mk.inj (Option.some.inj h)
    go_enter Try.func9, Try.ntmps9
    go_wp2_with (go_at_call 26; refine (facts_no a0 _ h1).mono ?_; rintro e w' ⟨rfl, rfl⟩)
    go_ret2
    exact ⟨_, rfl, R_empty _ _, RowKit.Below.refl _ _⟩
  rw [if_neg h1] at h
  have H := As2.mk h
  clear h
  obtain ⟨n, rfl⟩ := Int.eq_ofNat_of_zero_le (show 0 ≤ a0 by omega)
  have hmk : ∀ W : World, (Instr.makeSlice 42 (.int .i64 (n : Int)) (.int .i64 (n : Int))).run Try.prog W = .ok (.slice (some ⟨W.heap.size, 0, none⟩) n n) (W.alloc (.cells (madeCells #[.bool false] n) 4)) := by
    intro W
    obtain ⟨i0, hi, hz⟩ := Option.map_eq_some_iff.1 zero4
    simp only [Prod.mk.injEq] at hz
    obtain ⟨hz0, hz1, hz2⟩ := hz
    have z := run_make (P := Try.prog) W 42 4 i0 _ Try.underlying42 hi hz0 .i64 .i64 (n : Int) (n : Int) (by omega) (by omega) (by rw [hz2]; omega) (by omega)
    rw [hz1, Int.toNat_natCast, Nat.mul_one] at z
    exact z
  have hl1 := hr1.2.1
  have hl2 := hr2.2.1
  have g1 : 1 ≤ (n : Int) := by omega
  have g2 : (n : Int) ≤ 1024 := by omega
  have R1 := As2.mk hr1
  have R2 := As2.mk hr2
  clear hr1 hr2 h1
  go_enter Try.func9, Try.ntmps9
  go_wp2_with (go_at_call 26; refine (facts_yes _ _ g1 g2).mono ?_; rintro e w' ⟨rfl, rfl⟩)
  obtain ⟨W, hW⟩ : ∃ W, W = w.alloc (.cells #[.slice A1 l1.length c1, .slice A2 l2.length c2] 22) := ⟨_, rfl⟩
  have k0 : W.cell? ⟨w.heap.size, 0, none⟩ = some (.slice A1 l1.length c1) := by subst hW; go_simp
  have k1 : W.cell? ⟨w.heap.size, 1, none⟩ = some (.slice A2 l2.length c2) := by subst hW; go_simp
  have q1 : As2 (Kd.C (Kd.int .i64) W A1 l1.length l1) := ⟨by subst hW; exact Kd.C_alloc R1.out _⟩
  have q2 : As2 (Kd.C (Kd.int .i64) W A2 l2.length l2) := ⟨by subst hW; exact Kd.C_alloc R2.out _⟩
  have hB : As2 (RowKit.Below w.heap.size w W) := ⟨by subst hW; exact (RowKit.Below.refl _ _).alloc (Nat.le_refl _) _⟩
  have hz : w.heap.size + 1 = W.heap.size := by subst hW; simp
  have HZ := As2.mk hz
  rw [← hW]
  clear hW hz R1 R2
  go_loop [26] (fun i => ∃ k : Nat, i = .int .i64 k ∧ k ≤ 2 ∧ As2 (0 < k → ∀ j : Nat, j < l1.length → 1 ≤ rd l1 j ∧ rd l1 j < (n : Int)) ∧ As2 (1 < k → ∀ j : Nat, j < l2.length → 1 ≤ rd l2 j ∧ rd l2 j < (n : Int))) (fun i => 2 - (intOf i).toNat)
  case atStart => exact ⟨0, rfl, by omega, ⟨by omega⟩, ⟨by omega⟩⟩
  case round =>
    obtain ⟨k, rfl, hk, G1, G2⟩ := hrel
    obtain rfl | rfl | rfl : k = 0 ∨ k = 1 ∨ k = 2 := by omega
    · go_wp2
      go_loop [32] (fun i => ∃ j : Nat, i = .int .i64 j ∧ j ≤ l1.length ∧ As2 (∀ t : Nat, t < j → 1 ≤ rd l1 t ∧ rd l1 t < (n : Int))) (fun i => l1.length - (intOf i).toNat)
      case atStart => exact ⟨0, rfl, by omega, ⟨by omega⟩⟩
      case round =>
        obtain ⟨j, rfl, hj, G⟩ := hrel
        by_cases hlt : j < l1.length
        · obtain ⟨ad, rfl, hc⟩ := Kd.at_int q1.out j (by omega) (by omega)
          rw [Int.toNat_natCast] at hc
          by_cases hx : rd l1 j < 1 ∨ (n : Int) ≤ rd l1 j
          · have HH := H.out
            rw [if_pos (.inl (bad_at hlt hx))] at HH
            obtain ⟨rfl, rfl⟩ := Prod.mk.inj (Option.some.inj HH)
            clear H HH
            generalize rd l1 j = x at hc hx
            by_cases hx1 : x < 1
            · clear hx
              go_wp2
              go_ret2
              exact ⟨_, rfl, R_empty _ _, hB.out⟩
            · have hx2 : (n : Int) ≤ x := by omega
              clear hx
              go_wp2
              go_ret2
              exact ⟨_, rfl, R_empty _ _, hB.out⟩
          · have hx1 : 1 ≤ rd l1 j := by omega
            have hx2 : rd l1 j < (n : Int) := by omega
            have HX := As2.mk (And.intro hx1 hx2)
            generalize rd l1 j = x at hc hx1 hx2
            clear hx
            go_wp2
            exact ⟨⟨j + 1, by go_num, by omega, ⟨fun t ht => by
              by_cases e : t < j
              · exact G.out t e
              · obtain rfl : t = j := by omega
                exact HX.out⟩⟩, by simp [intOf]; omega⟩
        · have GG : As2 (0 < 1 → ∀ t : Nat, t < l1.length → 1 ≤ rd l1 t ∧ rd l1 t < (n : Int)) := ⟨fun _ t ht => G.out t (by omega)⟩
          go_wp2
          exact ⟨⟨1, rfl, by omega, GG, ⟨by omega⟩⟩, by simp [intOf]⟩
    · go_wp2
      go_loop [32] (fun i => ∃ j : Nat, i = .int .i64 j ∧ j ≤ l2.length ∧ As2 (∀ t : Nat, t < j → 1 ≤ rd l2 t ∧ rd l2 t < (n : Int))) (fun i => l2.length - (intOf i).toNat)
      case atStart => exact ⟨0, rfl, by omega, ⟨by omega⟩⟩
      case round =>
        obtain ⟨j, rfl, hj, G⟩ := hrel
        by_cases hlt : j < l2.length
        · obtain ⟨ad2, rfl, hc⟩ := Kd.at_int q2.out j (by omega) (by omega)
          rw [Int.toNat_natCast] at hc
          by_cases hx : rd l2 j < 1 ∨ (n : Int) ≤ rd l2 j
          · have HH := H.out
            rw [if_pos (.inr (bad_at hlt hx))] at HH
            obtain ⟨rfl, rfl⟩ := Prod.mk.inj (Option.some.inj HH)
            clear H HH
            generalize rd l2 j = x at hc hx
            by_cases hx1 : x < 1
            · clear hx
              go_wp2
              go_ret2
              exact ⟨_, rfl, R_empty _ _, hB.out⟩
            · have hx2 : (n : Int) ≤ x := by omega
              clear hx
              go_wp2
              go_ret2
              exact ⟨_, rfl, R_empty _ _, hB.out⟩
          · have hx1 : 1 ≤ rd l2 j := by omega
            have hx2 : rd l2 j < (n : Int) := by omega
            have HX := As2.mk (And.intro hx1 hx2)
            generalize rd l2 j = x at hc hx1 hx2
            clear hx
            go_wp2
            exact ⟨⟨j + 1, by go_num, by omega, ⟨fun t ht => by
              by_cases e : t < j
              · exact G.out t e
              · obtain rfl : t = j := by omega
                exact HX.out⟩⟩, by simp [intOf]; omega⟩
        · have GG : As2 (1 < 2 → ∀ t : Nat, t < l2.length → 1 ≤ rd l2 t ∧ rd l2 t < (n : Int)) := ⟨fun _ t ht => G.out t (by omega)⟩
          have G1' : As2 (0 < 2 → ∀ t : Nat, t < l1.length → 1 ≤ rd l1 t ∧ rd l1 t < (n : Int)) := ⟨fun _ => G1.out (by omega)⟩
          go_wp2
          exact ⟨⟨2, rfl, by omega, G1', GG⟩, by simp [intOf]⟩
    · have HH := H.out
      have b1 := not_bad (G1.out (by omega))
      have b2 := not_bad (G2.out (by omega))
      rw [if_neg (by simp [b1, b2])] at HH
      by_cases hlen : l1.length ≤ 4398046510000
      case neg => rw [if_neg hlen] at HH; cases HH
      rw [if_pos hlen] at HH
      obtain ⟨hr, rfl⟩ := Prod.mk.inj (Option.some.inj HH)
      have HR := As2.mk hr
      clear H HH b1 b2 hr
      go_wp2
      rw [kl_zero n l2]
      go_loopw [49] (fun i wr => ∃ j : Nat, i = .int .i64 j ∧ j ≤ l2.length ∧ As2 (wr.heap[W.heap.size]? = some (.cells ((kl n l2 j).map Value.bool).toArray 4 (0, 0)) ∧ RowKit.Below W.heap.size W wr)) (fun i _ => l2.length - (intOf i).toNat)
      case atStart => exact ⟨0, rfl, by omega, ⟨heap_alloc_at W _, (RowKit.Below.refl _ _).alloc (Nat.le_refl _) _⟩⟩
      case round =>
        obtain ⟨j, rfl, hj, D⟩ := hrel
        by_cases hlt : j < l2.length
        · have q3 : Kd.C (Kd.int .i64) wr A2 l2.length l2 := Kd.C_below q2.out D.out.2
          obtain ⟨ad2, rfl, hc⟩ := Kd.at_int q3 j (by omega) (by omega)
          rw [Int.toNat_natCast] at hc
          obtain ⟨m, hm⟩ := Int.eq_ofNat_of_zero_le (show 0 ≤ rd l2 j by have := G2.out (by omega) j hlt; omega)
          have hmn : m < n := by have := G2.out (by omega) j hlt; omega
          have HM := As2.mk hm
          rw [hm] at hc
          have hb1 : wr.cell? ⟨W.heap.size, m, none⟩ = some (.bool (decide ((m : Int) ∈ l2.take j))) := by
            rw [blk_cell D.out.1 m]; exact kl_at n l2 j m hmn
          have hb2 : wr.frozen? ⟨W.heap.size, m, none⟩ = false := by
            have := D.out.1
            simp only [World.frozen?, this]; simp
          generalize decide ((m : Int) ∈ l2.take j) = ob at hb1
          clear q3 hm
          go_wp2
          exact ⟨⟨j + 1, by go_num, by omega, ⟨blk_put D.out.1 m _ (kl_succ n l2 j m hlt HM.out hmn), D.out.2.setCell (Nat.le_refl _) _⟩⟩, by simp [intOf]; omega⟩
        · go_wp2
          obtain rfl : j = l2.length := by omega
          have D0 := As2.mk (lit_row D.out.2)
          have DB := As2.mk (Kd.blk_later D.out.1 (.cells #[.int .i64 0, .int .i64 0] 44))
          have DW := As2.mk (below_alloc D.out.2 (.cells #[.int .i64 0, .int .i64 0] 44))
          clear D
          obtain ⟨wo, rfl⟩ : ∃ wo : World, wo = wr := ⟨_, rfl⟩
          go_loopw [15, 61] (fun v i wr2 => ∃ j : Nat, i = .int .i64 j ∧ j ≤ l1.length ∧ As2 (Kd.R k44 44 wr2 W.heap.size (fun _ => True) v (((0, 0) :: (l1.take j).map fun d => (0, d)).map ofP)) ∧ As2 (wr2.heap[W.heap.size]? = some (.cells ((kl n l2 l2.length).map Value.bool).toArray 4 (0, 0))) ∧ As2 (RowKit.Below W.heap.size W wr2)) (fun _ i _ => l1.length - (intOf i).toNat)
          case atStart => exact ⟨0, rfl, by omega, D0, DB, DW⟩
          case round =>
            obtain ⟨j, rfl, hj, E0, EB, EW⟩ := hrel
            clear D0 DB DW
            by_cases hlt : j < l1.length
            · have q3 : Kd.C (Kd.int .i64) wr A1 l1.length l1 := Kd.C_below q1.out EW.out
              obtain ⟨ad, rfl, hc⟩ := Kd.at_int q3 j (by omega) (by omega)
              rw [Int.toNat_natCast] at hc
              have HX : As2 (rd l1 j = l1[j]) := ⟨by simp [YtdbnlmhffbopoaaW.PrintWords.rd, hlt]⟩
              generalize rd l1 j = x at hc HX
              clear q3
              obtain ⟨xs, hxs⟩ : ∃ xs, xs = (((0, 0) :: (l1.take j).map fun d => ((0 : Int), d)).map ofP) := ⟨_, rfl⟩
              have hxl : xs.length ≤ l1.length + 1 := by rw [hxs]; simp; omega
              rw [← hxs] at E0
              have HXS := As2.mk hxs
              clear hxs
              go_wp2_with ((with_reducible refine gate_builtin (b := .append) (xs := #[.tmp 65, .tmp 68]) rfl ?_); at_builtin; refine Kd.R_append k44 (w0 := W) W.heap.size rfl (.tmp 65) (.tmp 68) 23 44 (.agg #[(.int .i64 0), (.int .i64 0)]) 16 rfl Try.underlying23 info44 rfl (by decide) (by omega) u15 xs (⟨0, x⟩ : S44) [.int .i64 0, .int .i64 x] (fun _ => True) (fun _ => False) rfl rfl ?aP (fun _ hk => hk.elim) (fun _ _ => trivial) ?aO ?aB ?aS ?aL ?_; (case aP => exact k44_mkM _ _ _ (⟨0, x⟩ : S44)); (case aB => exact EW.out); (case aO => exact E0.out); (case aS => exact EW.out.size); (case aL => omega); intro v119 w35 ho hb hg hat; have F0 := As2.mk ho; have FW := As2.mk hb; have FB := As2.mk (blk_grown EB.out hg (Kd.R_ne E0.out EB.out (by decide))); clear ho hb hg hat)
              exact ⟨⟨j + 1, by go_num, by omega, ⟨by
                have z := F0.out
                rwa [HXS.out, gen_succ l1 j hlt x HX.out] at z⟩, FB, FW⟩, by simp [intOf]; omega⟩
            · obtain rfl : j = l1.length := by omega
              rw [List.take_length] at E0
              have E1 : As2 (Kd.R k44 44 wr W.heap.size (fun _ => True) u15 (((0, 0) :: (l1.map fun d => ((0 : Int), d)) ++ liveF (1 : Nat) l2).map ofP)) := ⟨by rw [liveF_one, List.append_nil]; exact E0.out⟩
              clear E0
              go_wp2
              obtain ⟨wp, rfl⟩ : ∃ wp : World, wp = wr := ⟨_, rfl⟩
              go_loopw [15, 18] (fun v i wr3 => ∃ d : Nat, i = .int .i64 d ∧ 1 ≤ d ∧ d ≤ n ∧ As2 (Kd.R k44 44 wr3 W.heap.size (fun _ => True) v (((0, 0) :: (l1.map fun d => ((0 : Int), d)) ++ liveF (d : Nat) l2).map ofP)) ∧ As2 (wr3.heap[W.heap.size]? = some (.cells ((kl n l2 l2.length).map Value.bool).toArray 4 (0, 0))) ∧ As2 (RowKit.Below W.heap.size W wr3)) (fun _ i _ => n - (intOf i).toNat)
              case atStart => exact ⟨1, rfl, by omega, by omega, E1, EB, EW⟩
              case round =>
                clear E1 EB EW
                obtain ⟨d, rfl, hd1, hd, E0, EB, EW⟩ := hrel
                by_cases hlt : d < n
                · have hb1 : wr.cell? ⟨W.heap.size, d, none⟩ = some (.bool (decide ((d : Int) ∈ l2))) := by
                    have z := (blk_cell EB.out d).trans (kl_at n l2 l2.length d hlt)
                    rwa [List.take_length] at z
                  by_cases hk : (d : Int) ∈ l2
                  · have HK := As2.mk hk
                    rw [decide_eq_true hk] at hb1
                    clear hk
                    go_wp2
                    exact ⟨⟨d + 1, by go_num, by omega, by omega, ⟨by rw [liveF_succ, if_neg (by simp [HK.out]), List.append_nil]; exact E0.out⟩, EB, EW⟩, by simp [intOf]; omega⟩
                  · have HK := As2.mk hk
                    rw [decide_eq_false hk] at hb1
                    clear hk
                    obtain ⟨xs, hxs⟩ : ∃ xs, xs = (((0, 0) :: (l1.map fun d => ((0 : Int), d)) ++ liveF (d : Nat) l2).map ofP) := ⟨_, rfl⟩
                    have hxl : xs.length ≤ l1.length + 1 + 1024 := by rw [hxs]; have := liveF_len d l2; simp; omega
                    rw [← hxs] at E0
                    have HXS := As2.mk hxs
                    clear hxs
                    go_wp2_with ((with_reducible refine gate_builtin (b := .append) (xs := #[.tmp 81, .tmp 85]) rfl ?_); at_builtin; refine Kd.R_append k44 (w0 := W) W.heap.size rfl (.tmp 81) (.tmp 85) 23 44 (.agg #[(.int .i64 0), (.int .i64 0)]) 16 rfl Try.underlying23 info44 rfl (by decide) (by omega) u15 xs (⟨d, d⟩ : S44) [.int .i64 d, .int .i64 d] (fun _ => True) (fun _ => False) rfl rfl ?aP (fun _ hk => hk.elim) (fun _ _ => trivial) ?aO ?aB ?aS ?aL ?_; (case aP => exact k44_mkM _ _ _ (⟨d, d⟩ : S44)); (case aB => exact EW.out); (case aO => exact E0.out); (case aS => exact EW.out.size); (case aL => omega); intro v123 w44 ho hb hg hat; have F0 := As2.mk ho; have FW := As2.mk hb; have FB := As2.mk (blk_grown EB.out hg (Kd.R_ne E0.out EB.out (by decide))); clear ho hb hg hat)
                    exact ⟨⟨d + 1, by go_num, by omega, by omega, ⟨by
                      have z := F0.out
                      rw [HXS.out] at z
                      rw [liveF_succ, if_pos (by simp [HK.out]; omega), ← List.append_assoc, List.map_append]
                      exact z⟩, FB, FW⟩, by simp [intOf]; omega⟩
                · obtain rfl : d = n := by omega
                  obtain ⟨xs, hxs⟩ : ∃ xs, xs = (((0, 0) :: (l1.map fun d => ((0 : Int), d)) ++ liveF (d : Nat) l2).map ofP) := ⟨_, rfl⟩
                  have hxl : xs.length ≤ l1.length + 1 + 1024 := by rw [hxs]; have := liveF_len d l2; simp; omega
                  have hfs : flow_sorted.f xs = some r1 := by
                    unfold flow_sorted.f
                    rw [if_pos (by omega), ← HR.out, hxs, List.map_map, show toP ∘ ofP = id from rfl, List.map_id]
                  rw [← hxs] at E0
                  have HFS := As2.mk hfs
                  clear hxs hfs
                  obtain ⟨Av, cv, rfl, hcv, hCv⟩ := Kd.R_reads E0.out
                  have HCv := As2.mk hCv
                  clear hCv
                  go_wp2_with (go_at_call 27; refine (flow_sorted.calls Av cv xs r1 _ HCv.out hcv HFS.out).mono ?_; rintro e w9 ⟨v9, rfl, h9, hb9⟩; have H9 := As2.mk h9; have B9 := As2.mk hb9; clear h9 hb9)
                  go_ret2
                  exact ⟨_, rfl, Kd.R_lower H9.out (Nat.le_trans hB.out.size EW.out.size), (hB.out.trans (EW.out.mono hB.out.size)).trans (B9.out.mono (Nat.le_trans hB.out.size EW.out.size))⟩
end Go.Proofs.Ytdbnlmhffbopoaa.Xq
