/- The contract of flow.Apply: it returns the facts behind f, ascending, each once, in new memory. Condition: at most 4398046511104 pairs and facts. -/
import Derived.Test.YtdbnlmhffbopoaaGvInts
import Derived.Test.YtdbnlmhffbopoaaGvSorted
import Derived.Deep.DeepMust
set_option linter.unusedVariables false
set_option linter.unusedSimpArgs false
namespace Go.Proofs.Ytdbnlmhffbopoaa.Xq
open Go.RowKit Go.Proofs.YtdbnlmhffbopoaaW.PrintWords Go.Proofs.YtdbnlmhffbopoaaW.PrintLast Go.Proofs.Ytdbnlmhffbopoaa.Gv

/-- what f makes of the facts l, in f's order -/
def outF (f : List S44) (l : List Int) : List Int := (f.filter fun p => decide (p.f1 ≠ 0) && (decide (p.f0 ∈ l) || decide (p.f0 = 0))).map fun p => p.f1
def flow_Apply.f (f : List S44) (l : List Int) : Option (List Int) := if f.length ≤ 4398046511104 ∧ l.length ≤ 4398046511104 then some (Go.Lib.compact (sortI (outF f l))) else none

theorem outF_succ (f : List S44) (l : List Int) (i : Nat) (hi : i < f.length) : outF (f.take (i + 1)) l = outF (f.take i) l ++ if f[i].f1 ≠ 0 ∧ (f[i].f0 ∈ l ∨ f[i].f0 = 0) then [f[i].f1] else [] := by
  have e : f.take (i + 1) = f.take i ++ [f[i]] := List.take_succ_eq_append_getElem hi
  unfold outF
  rw [e, List.filter_append, List.map_append]
  congr 1
  by_cases h : f[i].f1 ≠ 0 ∧ (f[i].f0 ∈ l ∨ f[i].f0 = 0)
  · rw [if_pos h, List.filter_cons_of_pos (by simpa using h)]; rfl
  · rw [if_neg h, List.filter_cons_of_neg (by simpa using h)]; rfl
theorem outF_len (f : List S44) (l : List Int) : (outF f l).length ≤ f.length := by
  unfold outF
  rw [List.length_map]
  exact List.length_filter_le _ _
theorem gvInfo3 : (Try.prog.info? 3).map (fun i => (i.zero, i.size, i.bytes)) = some (some (.int .i64 0), 1, 8) := by kernel_rfl
theorem mem_sortI (l : List Int) (x : Int) : x ∈ sortI l ↔ x ∈ l := List.mem_mergeSort
theorem sortI_asc (l : List Int) : (sortI l).Pairwise (· ≤ ·) := by
  have h := List.pairwise_mergeSort (le := fun x y : Int => decide (x ≤ y)) (fun a b c h1 h2 => by simp at *; omega) (fun a b => by simp; omega) l
  exact h.imp (fun h => by simpa using h)
theorem outF_step {f : List S44} {l : List Int} {i : Nat} {y : S44} (hi : i < f.length) (hy : rd_T44 f i = y) : outF (f.take (i + 1)) l = outF (f.take i) l ++ if y.f1 ≠ 0 ∧ (y.f0 ∈ l ∨ y.f0 = 0) then [y.f1] else [] := by
  have : f[i] = y := by rw [← hy]; simp [rd_T44, hi]
  rw [outF_succ f l i hi, this]

set_option maxRecDepth 100000 in
set_option maxHeartbeats 2000000 in
theorem flow_Apply.calls (A0 : Option Addr) (c0 : Nat) (l0 : List S44) (A1 : Option Addr) (c1 : Nat) (l1 : List Int) (r : List Int) (w : World)
    (hr0 : Kd.C k44 w A0 l0.length l0) (hc0 : l0.length ≤ c0) (hr1 : Kd.C (Kd.int .i64) w A1 l1.length l1) (hc1 : l1.length ≤ c1) (h : flow_Apply.f l0 l1 = some r) :
    Calls Try.prog 19 #[.slice A0 l0.length c0, .slice A1 l1.length c1] w fun e w' => ∃ v0_ : Value, e = .returned v0_ ∧ Kd.R (Kd.int .i64) 3 w' w.heap.size (fun _ => True) v0_ r ∧ Below w.heap.size w w' := by
  unfold flow_Apply.f at h
  by_cases hlen : l0.length ≤ 4398046511104 ∧ l1.length ≤ 4398046511104
  case neg => rw [if_neg hlen] at h; cases h
  rw [if_pos hlen] at h
  obtain ⟨hl0, hl1⟩ := hlen
  have HR := As2.mk (Option.some.inj h)
  have R0 := As2.mk hr0
  have R1 := As2.mk hr1
  clear h hr0 hr1
  go_enter Try.func19, Try.ntmps19
  go_wp2_with fail
  refine (cloneI_calls A1 c1 l1 _ R1.out (by omega)).mono ?_
  rintro e w1 ⟨v5, rfl, g5, b1⟩
  have G5 := As2.mk g5
  have B1 := As2.mk b1
  clear g5 b1
  go_wp2_with fail
  refine (sortI_calls v5 l1 _ _ G5.out (by omega)).mono ?_
  rintro e w2 ⟨rfl, g5, gr⟩
  have G6 := As2.mk g5
  have B2 := As2.mk (B1.out.grown gr B1.out.size (fun k hk => own_base (R_int_iff.1 G5.out) k hk))
  clear g5 gr G5 B1
  obtain ⟨A5, c5, hv5, hc5, hC5⟩ := Kd.R_reads G6.out
  have C5 := As2.mk hC5
  subst hv5
  clear hC5 G6
  have S5 := As2.mk (sortI_asc l1)
  have M5 := As2.mk (mem_sortI l1)
  have L5 : (sortI l1).length ≤ 4398046511104 := by rw [sortI_len]; exact hl1
  generalize sortI l1 = sl at C5 S5 M5 L5 hc5
  go_wp2_with fail
  go_loopw [6, 17] (fun v i wr => ∃ k : Nat, i = .int .i64 k ∧ k ≤ l0.length ∧ As2 (Kd.R kI 3 wr w2.heap.size (fun _ => True) v (outF (l0.take k) l1)) ∧ As2 (Below w2.heap.size w2 wr)) (fun _ i _ => l0.length - (intOf i).toNat)
  case atStart => exact ⟨0, rfl, by omega, ⟨Kd.R_nil _ _ _ _ _⟩, ⟨Below.refl _ _⟩⟩
  case round =>
    obtain ⟨k, rfl, hk, E, EB⟩ := hrel
    by_cases hlt : k < l0.length
    · have q0 := Kd.C_below (Kd.C_below R0.out (B2.out.mono (Nat.le_refl _))) EB.out
      obtain ⟨ad, rfl, d0, d1⟩ := at_T44 q0 (k : Int) (by omega) (by omega)
      rw [Int.toNat_natCast] at d0 d1
      clear q0
      generalize hy : rd_T44 l0 (k : Int) = y at d0 d1
      have ST := As2.mk (outF_step (l := l1) hlt hy)
      clear hy
      by_cases h1 : y.f1 = 0
      · go_wp2_with fail
        exact ⟨⟨k + 1, by go_num, by omega, ⟨by rw [ST.out, if_neg (fun h => h.1 h1), List.append_nil]; exact Kd.R_alloc E.out _⟩, ⟨below_alloc EB.out _⟩⟩, by simp [intOf]; omega⟩
      · have CC := As2.mk (Kd.C_below C5.out EB.out)
        obtain ⟨y0, z⟩ := y
        change ¬ z = 0 at h1
        obtain ⟨xs, hxs⟩ : ∃ xs, xs = outF (l0.take k) l1 := ⟨_, rfl⟩
        have hxl : xs.length ≤ l0.length := by rw [hxs]; exact Nat.le_trans (outF_len _ _) (by simp; omega)
        rw [← hxs] at E
        rw [← hxs] at ST
        clear hxs
        have N1 := As2.mk h1
        by_cases h2 : y0 ∈ sl
        · have h2d : decide (y0 ∈ sl) = true := decide_eq_true h2
          have H2 := As2.mk ((M5.out y0).1 h2)
          clear h2
          go_wp2_with fail
          refine (bsI_calls A5 c5 sl y0 _ (Kd.C_alloc CC.out _) (by omega) S5.out).mono ?_
          rintro e w' ⟨ix, rfl, q, rfl⟩
          rw [h2d]
          clear h2d
          go_wp2_with ((with_reducible refine gate_builtin (b := .append) (xs := #[.tmp 37, .tmp 40]) rfl ?_); at_builtin; go_must (refine Kd.R_append kI (w0 := w2) w2.heap.size rfl (.tmp 37) (.tmp 40) 22 3 (.int .i64 0) 8 rfl Try.underlying22 gvInfo3 rfl (by decide) (by omega) u6 xs z [.int .i64 z] (fun _ => True) (fun _ => False) rfl ?aX ?aP (fun _ hk => hk.elim) (fun _ _ => trivial) ?aO ?aB ?aS ?aL ?_); (case aX => go_must (first | exact rfl | exact congrArg (fun z => Value.slice (some ⟨z, 0, none⟩) 1 1) (by simp))); (case aP => exact rfl); (case aB => go_must (exact (by repeat (first | (with_reducible first | exact EB.out | apply below_alloc | apply pw_below_drewN | apply below_drew1) | exact EB.out)))); (case aO => go_must (exact (by (with_reducible repeat (first | apply Kd.R_alloc | apply Kd.R_drewN | apply Kd.R_drew)); exact E.out))); (case aS => go_must (exact below_size (by repeat (first | (with_reducible first | exact EB.out | apply below_alloc | apply pw_below_drewN | apply below_drew1) | exact EB.out)))); (case aL => omega); intro v1 w3 ho hb hg hat; have F := As2.mk ho; have FB := As2.mk hb; clear ho hb hg hat)
          exact ⟨⟨k + 1, by go_num, by omega, ⟨by rw [ST.out, if_pos ⟨N1.out, .inl H2.out⟩]; exact F.out⟩, FB⟩, by simp [intOf]; omega⟩
        · have h2d : decide (y0 ∈ sl) = false := decide_eq_false h2
          have H2 := As2.mk (fun t => h2 ((M5.out y0).2 t))
          clear h2
          by_cases h3 : y0 = 0
          · subst h3
            go_wp2_with fail
            refine (bsI_calls A5 c5 sl 0 _ (Kd.C_alloc CC.out _) (by omega) S5.out).mono ?_
            rintro e w' ⟨ix, rfl, q, rfl⟩
            rw [h2d]
            clear h2d
            go_wp2_with ((with_reducible refine gate_builtin (b := .append) (xs := #[.tmp 37, .tmp 40]) rfl ?_); at_builtin; go_must (refine Kd.R_append kI (w0 := w2) w2.heap.size rfl (.tmp 37) (.tmp 40) 22 3 (.int .i64 0) 8 rfl Try.underlying22 gvInfo3 rfl (by decide) (by omega) u6 xs z [.int .i64 z] (fun _ => True) (fun _ => False) rfl ?aX ?aP (fun _ hk => hk.elim) (fun _ _ => trivial) ?aO ?aB ?aS ?aL ?_); (case aX => go_must (first | exact rfl | exact congrArg (fun z => Value.slice (some ⟨z, 0, none⟩) 1 1) (by simp))); (case aP => exact rfl); (case aB => go_must (exact (by repeat (first | (with_reducible first | exact EB.out | apply below_alloc | apply pw_below_drewN | apply below_drew1) | exact EB.out)))); (case aO => go_must (exact (by (with_reducible repeat (first | apply Kd.R_alloc | apply Kd.R_drewN | apply Kd.R_drew)); exact E.out))); (case aS => go_must (exact below_size (by repeat (first | (with_reducible first | exact EB.out | apply below_alloc | apply pw_below_drewN | apply below_drew1) | exact EB.out)))); (case aL => omega); intro v1 w3 ho hb hg hat; have F := As2.mk ho; have FB := As2.mk hb; clear ho hb hg hat)
            exact ⟨⟨k + 1, by go_num, by omega, ⟨by rw [ST.out, if_pos ⟨N1.out, .inr (by trivial)⟩]; exact F.out⟩, FB⟩, by simp [intOf]; omega⟩
          · have H3 := As2.mk h3
            go_wp2_with fail
            refine (bsI_calls A5 c5 sl y0 _ (Kd.C_alloc CC.out _) (by omega) S5.out).mono ?_
            rintro e w' ⟨ix, rfl, q, rfl⟩
            rw [h2d]
            clear h2d
            go_wp2_with fail
            exact ⟨⟨k + 1, by go_num, by omega, ⟨by rw [ST.out, if_neg (fun t => t.2.elim H2.out H3.out), List.append_nil]; exact Kd.R_drewN (Kd.R_alloc E.out _) _⟩, ⟨pw_below_drewN (below_alloc EB.out _) _⟩⟩, by simp [intOf]; omega⟩
    · obtain rfl : k = l0.length := by omega
      rw [List.take_length] at E
      go_wp2_with fail
      refine (sortI_calls u6 (outF l0 l1) _ _ E.out (by have := outF_len l0 l1; omega)).mono ?_
      rintro e w4 ⟨rfl, g7, gr⟩
      have B4 := As2.mk (EB.out.grown gr EB.out.size (fun k hk => own_base (R_int_iff.1 E.out) k hk))
      have G7 := As2.mk g7
      clear g7 gr
      go_wp2_with fail
      refine (compactI_calls u6 _ _ _ G7.out (by rw [sortI_len]; have := outF_len l0 l1; omega)).mono ?_
      rintro e w5 ⟨v', rfl, g8, gr, _⟩
      have B5 := As2.mk (B4.out.grown gr B4.out.size (fun k hk => own_base (R_int_iff.1 G7.out) k hk))
      have G8 := As2.mk g8
      clear g8 gr
      go_wp2_with fail
      go_ret
      exact ⟨_, rfl, by rw [← HR.out]; exact Kd.R_lower G8.out B2.out.size, B2.out.trans (B5.out.mono B2.out.size)⟩
end Go.Proofs.Ytdbnlmhffbopoaa.Xq
