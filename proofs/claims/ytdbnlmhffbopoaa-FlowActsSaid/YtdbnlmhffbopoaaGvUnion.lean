/- The contracts of slices.Grow and slices.Concat at pairs and of flow.Union, and the shelf's laying of slices.Grow. Condition: at most 65536 pairs each. -/
import Derived.Shelf.Spec.SlicesGrow
import Derived.Ground.Names7Prog
import Derived.Test.YtdbnlmhffbopoaaProg
import Derived.Test.YtdbnlmhffbopoaaGvCompose
namespace Go.Proofs
open Go.Shelf
def Try.growP_ren : Go.Shelf.Ren := ⟨fun | 4 => 53 | n => n, fun | 22 => 24 | 25 => 44 | 3 => 3 | 4 => 4 | 9 => 9 | 20 => 20 | 0 => 0 | 2 => 3 | n => n, fun | n => n⟩
theorem Try.growP : Go.Proofs.Lays8.n4 Try.prog Try.growP_ren := {
  mixed := by kernel_rfl
  f4 := ⟨Try.f53.name, by decide, Try.func53.trans (congrArg some (by kernel_rfl))⟩
  t0 := Try.underlying0
  a0 := Try.isAgg0
  z0 := Try.sizeOf0
  v0 := Try.zeroValue0
  t3 := Try.underlying3
  a3 := Try.isAgg3
  z3 := Try.sizeOf3
  v3 := Try.zeroValue3
  t4 := Try.underlying4
  a4 := Try.isAgg4
  z4 := Try.sizeOf4
  v4 := Try.zeroValue4
  t9 := Try.underlying9
  a9 := Try.isAgg9
  z9 := Try.sizeOf9
  v9 := Try.zeroValue9
  t20 := Try.underlying20
  a20 := Try.isAgg20
  z20 := Try.sizeOf20
  v20 := Try.zeroValue20
  t22 := Try.underlying24
  a22 := Try.isAgg24
  z22 := Try.sizeOf24
  v22 := Try.zeroValue24 }
end Go.Proofs
set_option linter.unusedVariables false
set_option linter.unusedSimpArgs false
namespace Go.Proofs.Ytdbnlmhffbopoaa.Xq
open Go.RowKit Go.Proofs.YtdbnlmhffbopoaaW.PrintWords Go.Proofs.YtdbnlmhffbopoaaW.PrintLast Go.Proofs.Ytdbnlmhffbopoaa.Gv

theorem row_empty {w' : World} {base g cap : Nat} {cur : Array Value} (hg : w'.heap[g]? = some (.cells cur 44 (0, 0))) (hb : base ≤ g) (hc : cur.size = cap * 2) (hm : cap ≤ maxLen) :
    Kd.R k44 44 w' base (fun _ => True) (.slice (some ⟨g, 0, none⟩) 0 cap) [] :=
  ⟨fun _ _ => trivial, [], ⟨rfl, .inr ⟨g, cap, cur, rfl, hb, hg, Nat.zero_le _, hm, hc, by simp⟩⟩, ⟨rfl, fun j p hp => by simp at hp⟩⟩

theorem growP_calls (n : Nat) (w : World) (hn : n ≤ 4398046511104) : Calls Try.prog 53 #[.slice none 0 0, .int .i64 n] w fun e w' => ∃ v, e = .returned v ∧ Kd.R k44 44 w' w.heap.size (fun _ => True) v [] ∧ Below w.heap.size w w' := by
  rcases Nat.eq_zero_or_pos n with rfl | hp
  · refine (Any8.slices_Grow_room Try.growP none 0 0 0 w (Nat.le_refl _) (by omega) (by omega) (Nat.le_refl _)).mono fun e w' ⟨he, hw⟩ => ⟨_, he, Kd.R_nil _ _ _ _ _, ?_⟩
    rw [hw]; exact Below.refl _ _
  · obtain ⟨i0, hi, hz⟩ := Option.map_eq_some_iff.1 zero44
    simp only [Prod.mk.injEq] at hz
    obtain ⟨hz0, hz1, hz2⟩ := hz
    refine (Any8.slices_Grow_grow Try.growP i0 _ hi hz0 (by omega) none 0 0 n [] w (Nat.le_refl _) (by omega) (by rw [hz2]; omega) (by omega) (by simp) (fun _ => rfl) (fun a h => by cases h)).mono fun e w' ⟨he, hw⟩ => ⟨_, he, ?_, ?_⟩
    · rw [hw]
      refine row_empty (g := w.heap.size) (heap_alloc_at w.drew _) (Nat.le_refl _) ?_ ?_
      · have := grownCap_ge w n 0 44
        simp [Builtin.zeroCells, Value.cells]
        change n * 2 + (grownCap w n 0 44 - n) * 2 = grownCap w n 0 44 * 2
        omega
      · exact grownCap_le_maxLen _ _ _ _ (by unfold maxLen; omega)
    · rw [hw]; exact below_alloc (below_drew (Below.refl _ _)) _

set_option maxRecDepth 100000 in
set_option maxHeartbeats 1000000 in
theorem concat_calls (g cs : Nat) (A0 : Option Addr) (c0 : Nat) (l0 : List S44) (A1 : Option Addr) (c1 : Nat) (l1 : List S44) (w : World)
    (h0 : w.cell? ⟨g, 0, none⟩ = some (.slice A0 l0.length c0)) (h1 : w.cell? ⟨g, 1, none⟩ = some (.slice A1 l1.length c1)) (hl : g < w.heap.size) 
    (hr0 : Kd.C k44 w A0 l0.length l0) (hr1 : Kd.C k44 w A1 l1.length l1) (hl0 : l0.length ≤ 65536) (hl1 : l1.length ≤ 65536) :
    Calls Try.prog 42 #[.slice (some ⟨g, 0, none⟩) 2 cs] w fun e w' => ∃ v, e = .returned v ∧ Kd.R k44 44 w' w.heap.size (fun _ => True) v (l0 ++ l1) ∧ Below w.heap.size w w' := by
  have R0 := As2.mk hr0
  have R1 := As2.mk hr1
  have H0 := As2.mk h0
  have H1 := As2.mk h1
  clear hr0 hr1
  go_enter Try.func42, Try.ntmps42
  go_wp2_with fail
  go_loop [3, 11] (fun s i => ∃ k : Nat, i = .int .i64 k ∧ k ≤ 2 ∧ s = .int .i64 (((if 1 ≤ k then l0.length else 0) + (if 2 ≤ k then l1.length else 0) : Nat) : Int)) (fun s i => 2 - (intOf i).toNat)
  case atStart => exact ⟨0, rfl, by omega, rfl⟩
  case round =>
    obtain ⟨k, rfl, hk, rfl⟩ := hrel
    obtain rfl | rfl | rfl : k = 0 ∨ k = 1 ∨ k = 2 := by omega
    · simp only [show ¬ (1 ≤ 0) by omega, show ¬ (2 ≤ 0) by omega, if_false]
      go_wp2_with fail
      exact ⟨⟨1, rfl, by omega, by simp⟩, by simp [intOf]⟩
    · simp only [show (1 ≤ 1) by omega, show ¬ (2 ≤ 1) by omega, if_false, if_true, Nat.add_zero]
      go_wp2_with fail
      exact ⟨⟨2, rfl, by omega, by simp⟩, by simp [intOf]⟩
    · simp only [show (1 ≤ 2) by omega, show (2 ≤ 2) by omega, if_true]
      clear h0 h1
      go_wp2_with fail
      refine (growP_calls (l0.length + l1.length) _ (by omega)).mono ?_
      rintro e w1 ⟨v, rfl, hg, hb⟩
      have G0 := As2.mk hg
      have B0 := As2.mk hb
      clear hg hb
      go_wp2_with fail
      go_loopw [6, 27] (fun v i wr => ∃ k : Nat, i = .int .i64 k ∧ k ≤ 2 ∧ As2 (Kd.R k44 44 wr w.heap.size (fun _ => True) v ((if 1 ≤ k then l0 else []) ++ (if 2 ≤ k then l1 else []))) ∧ As2 (Below w.heap.size w wr)) (fun _ i _ => 2 - (intOf i).toNat)
      case atStart => exact ⟨0, rfl, by omega, G0, B0⟩
      case round =>
        clear G0 B0
        obtain ⟨k, rfl, hk, AO, EB⟩ := hrel
        have h0 : wr.cell? ⟨g, 0, none⟩ = some (.slice A0 l0.length c0) := by rw [EB.out.cell hl]; exact H0.out
        have h1 : wr.cell? ⟨g, 1, none⟩ = some (.slice A1 l1.length c1) := by rw [EB.out.cell hl]; exact H1.out
        obtain rfl | rfl | rfl : k = 0 ∨ k = 1 ∨ k = 2 := by omega
        · rw [if_neg (by omega), if_neg (by omega), List.append_nil] at AO
          go_wp2_with (at_builtin; go_loud (refine Kd.R_append_rows k44 (Rr := k44.K wr) (w0 := w) w.heap.size rfl (.tmp 31) (.tmp 32) 24 44 (.agg #[(.int .i64 0), (.int .i64 0)]) 16 rfl Try.underlying24 gvI44 rfl (by decide) (by omega) u6 [] l0 A0 l0.length c0 (fun _ => True) (fun _ => False) rfl rfl ?aO ?aR ?aK (fun _ hk => hk.elim) (fun _ _ => trivial) ?aB ?aS ?aL ?_); (case aO => go_loud (exact AO.out)); (case aR => go_loud (exact Kd.C_below R0.out EB.out)); (case aK => go_loud (intro x cs hk; obtain rfl := k44_open hk; exact k44_mkM _ _ _ x)); (case aB => go_loud (exact EB.out)); (case aS => go_loud (exact EB.out.size)); (case aL => go_loud ((try simp only [List.length_nil]); omega)); intro v1 w3 ho hb hg hat; have F9 := As2.mk ho; have FB := As2.mk hb; clear ho hb hg hat)
          exact ⟨⟨1, rfl, by omega, ⟨by simpa using F9.out⟩, FB⟩, by simp [intOf]⟩
        · rw [if_pos (by omega), if_neg (by omega), List.append_nil] at AO
          go_wp2_with (at_builtin; go_loud (refine Kd.R_append_rows k44 (Rr := k44.K wr) (w0 := w) w.heap.size rfl (.tmp 31) (.tmp 32) 24 44 (.agg #[(.int .i64 0), (.int .i64 0)]) 16 rfl Try.underlying24 gvI44 rfl (by decide) (by omega) u6 l0 l1 A1 l1.length c1 (fun _ => True) (fun _ => False) rfl rfl ?aO ?aR ?aK (fun _ hk => hk.elim) (fun _ _ => trivial) ?aB ?aS ?aL ?_); (case aO => go_loud (exact AO.out)); (case aR => go_loud (exact Kd.C_below R1.out EB.out)); (case aK => go_loud (intro x cs hk; obtain rfl := k44_open hk; exact k44_mkM _ _ _ x)); (case aB => go_loud (exact EB.out)); (case aS => go_loud (exact EB.out.size)); (case aL => go_loud ((try simp only [List.length_nil]); omega)); intro v1 w3 ho hb hg hat; have F9 := As2.mk ho; have FB := As2.mk hb; clear ho hb hg hat)
          exact ⟨⟨2, rfl, by omega, ⟨by simpa using F9.out⟩, FB⟩, by simp [intOf]⟩
        · rw [if_pos (by omega), if_pos (by omega)] at AO
          go_wp2_with fail
          go_ret
          exact ⟨_, rfl, AO.out, EB.out⟩

end Go.Proofs.Ytdbnlmhffbopoaa.Xq
namespace Go.Proofs.Ytdbnlmhffbopoaa.Xq
open Go.RowKit Go.Proofs.YtdbnlmhffbopoaaW.PrintWords Go.Proofs.YtdbnlmhffbopoaaW.PrintLast Go.Proofs.Ytdbnlmhffbopoaa.Gv

def flow_Union.f (f g : List S44) : Option (List S44) := if f.length ≤ 65536 ∧ g.length ≤ 65536 then some ((sortDedup ((f ++ g).map toP)).map ofP) else none

set_option maxHeartbeats 1000000 in
theorem flow_Union.calls (A0 : Option Addr) (c0 : Nat) (l0 : List S44) (A1 : Option Addr) (c1 : Nat) (l1 : List S44) (r : List S44) (w : World)
    (hr0 : Kd.C k44 w A0 l0.length l0) (hc0 : l0.length ≤ c0) (hr1 : Kd.C k44 w A1 l1.length l1) (hc1 : l1.length ≤ c1) (h : flow_Union.f l0 l1 = some r) :
    Calls Try.prog 24 #[.slice A0 l0.length c0, .slice A1 l1.length c1] w fun e w' => ∃ v0_ : Value, e = .returned v0_ ∧ Kd.R k44 44 w' w.heap.size (fun _ => True) v0_ r ∧ Below w.heap.size w w' := by
  unfold flow_Union.f at h
  by_cases hlen : l0.length ≤ 65536 ∧ l1.length ≤ 65536
  case neg => rw [if_neg hlen] at h; cases h
  rw [if_pos hlen] at h
  obtain ⟨hl0, hl1⟩ := hlen
  have HR := As2.mk (Option.some.inj h)
  have R0 := As2.mk hr0
  have R1 := As2.mk hr1
  clear h hr0 hr1
  go_enter Try.func24, Try.ntmps24
  go_wp2_with fail
  refine (concat_calls w.heap.size _ A0 c0 l0 A1 c1 l1 _ ?_ ?_ ?_ (Kd.C_alloc R0.out _) (Kd.C_alloc R1.out _) hl0 hl1).mono ?_
  · go_simp
  · go_simp
  · simp
  rintro e w1 ⟨v, rfl, hg, hb⟩
  have B0 := As2.mk hb
  have HS : As2 (flow_sorted.f (l0 ++ l1) = some r) := ⟨by unfold flow_sorted.f; rw [if_pos (by simp; omega), ← HR.out]⟩
  generalize l0 ++ l1 = L at hg HS
  obtain ⟨A8, c8, rfl, hc8, hC8⟩ := Kd.R_reads hg
  have C8 := As2.mk hC8
  clear hg hb hC8
  go_wp2_with fail
  refine (flow_sorted.calls A8 c8 L r _ C8.out hc8 HS.out).mono ?_
  rintro e w2 ⟨v9, rfl, hg, hb⟩
  have G9 := As2.mk hg
  have B9 := As2.mk hb
  clear hg hb
  go_wp2_with fail
  go_ret
  have b1 : Below w.heap.size w w1 := (below_alloc (Below.refl _ _) _).trans (B0.out.mono (by simp))
  exact ⟨_, rfl, Kd.R_lower G9.out b1.size, below_step b1 B9.out⟩
end Go.Proofs.Ytdbnlmhffbopoaa.Xq
