/- Joined by a program out of this work's texts and the print's (what the law needs of them): GvRS, GvIter, GvNx, GvFen, GvReach, GvReverse, Xp1, GvRepeat, GvDS, GvRound, GvIterP, GvDist, GvRoundW, GvPath, GvSucc, Xq2. -/
import Derived.Test.YtfgbkklhjocmjaaDoorKg2
import Derived.RangeFuncNested
import Derived.RangeFuncLeaves
import Derived.RangeFuncCalls
import Derived.Deep.LoopGhost
import Derived.OwnWalkIn
import Derived.LoopIn
import Derived.Laws.EntriesVeiled
import Derived.Deep.DeepMust
import Derived.OrdersIn
set_option linter.unusedVariables false
set_option linter.unusedSimpArgs false
namespace Go.Proofs.YtfgbkklhjocmjaaDoor.Xq
open Go.RowKit Go.Proofs.YtfgbkklhjocmjaaDoorW.PrintWords Go.Proofs.YtfgbkklhjocmjaaDoorW.PrintLast Go.Proofs.YtfgbkklhjocmjaaDoor.Gv
theorem cells_ne {A : World} {row : Option Nat} (hr : ∀ r, row = some r → ∃ o : Obj, A.heap[r]? = some o ∧ o.isCells = false) {k : Nat} {cs : Array Value} {t : TypeId} {fr : Nat × Nat} (hk : A.heap[k]? = some (.cells cs t fr)) : some k ≠ row := by
  intro e
  obtain ⟨o, ho, hc⟩ := hr k e.symm
  rw [hk] at ho
  cases ho
  simp [Obj.isCells] at hc
theorem own_ne {α : Type} {d : Kd α} {e base : Nat} {ok : Nat → Prop} {A : World} {v : Value} {xs : List α} (h : d.R e A base ok v xs) {k : Nat} {o : Obj} (hk : A.heap[k]? = some o) (ho : o.isCells = false) : some k ≠ v.ownBlock := by
  intro e
  obtain ⟨inner, hown⟩ := Kd.R_own h
  obtain ⟨cs, hcs⟩ := own_typed hown k e.symm
  rw [hcs] at hk
  cases hk
  simp [Obj.isCells] at ho
section
variable {n : Int} {A : Option Addr} {c : Nat} {l : List S53} {Bg Bs Bw gs base : Nat} {Pr Pr' : Nat → Prop} {ws : List Nat} {wk : List Int} {W W' : World}
theorem RS.own (h : RS n A c l Bg Bs Bw gs base Pr ws wk W) {row : Option Nat} (hg : W.grownBy W' row) (hr : ∀ r, row = some r → ∃ o : Obj, W.heap[r]? = some o ∧ o.isCells = false) : RS n A c l Bg Bs Bw gs base Pr ws wk W' := by
  obtain ⟨vw, h1, h2⟩ := h.hw
  refine ⟨(hg.block _ (blk_lt h.hg) (cells_ne hr h.hg)).trans h.hg, (hg.block _ (blk_lt h.hs) (cells_ne hr h.hs)).trans h.hs, (hg.block _ (blk_lt h.hc) (cells_ne hr h.hc)).trans h.hc, ⟨vw, (hg.block _ (blk_lt h1) (cells_ne hr h1)).trans h1, Kd.R_grown2 h2 rfl hg (fun k e => ?_)⟩, fun k hk => ?_, h.lt⟩
  · obtain ⟨o, ho, hc⟩ := hr k e
    exact own_ne h2 ho hc
  · obtain ⟨p1, p2, p3⟩ := h.pr k hk
    exact ⟨Nat.lt_of_lt_of_le p1 hg.size, p2, p3⟩
theorem RS.below (h : RS n A c l Bg Bs Bw gs base Pr ws wk W) (hb : Below W.heap.size W W') (hp : ∀ k, Pr' k → Pr k ∨ (W.heap.size ≤ k ∧ k < W'.heap.size)) : RS n A c l Bg Bs Bw gs base Pr' ws wk W' := by
  obtain ⟨vw, h1, h2⟩ := h.hw
  refine ⟨blk_below h.hg hb, blk_below h.hs hb, blk_below h.hc hb, ⟨vw, blk_below h1 hb, Kd.R_below (Kd.R_reok rfl h2 (fun k hk hp' => ?_)) hb⟩, fun k hk => ?_, h.lt⟩
  · rcases hp k hp' with h3 | h3
    · exact h2.1 k hk h3
    · have := Kd.R_lt h2 k hk; omega
  · rcases hp k hk with h3 | h3
    · obtain ⟨p1, p2, p3⟩ := h.pr k h3
      exact ⟨Nat.lt_of_lt_of_le p1 hb.size, p2, p3⟩
    · have := blk_lt h.hc
      have := blk_lt h1
      exact ⟨h3.2, by omega, by omega⟩
theorem RS.prot (h : RS n A c l Bg Bs Bw gs base Pr ws wk W) (hp : ∀ k, Pr' k → Pr k ∨ ∃ o : Obj, W.heap[k]? = some o ∧ o.isCells = false) : RS n A c l Bg Bs Bw gs base Pr' ws wk W := by
  obtain ⟨vw, h1, h2⟩ := h.hw
  refine ⟨h.hg, h.hs, h.hc, ⟨vw, h1, Kd.R_reok rfl h2 (fun k hk hp' => ?_)⟩, fun k hk => ?_, h.lt⟩
  · rcases hp k hp' with h3 | ⟨o, ho, hc⟩
    · exact h2.1 k hk h3
    · exact own_ne h2 ho hc hk.symm
  · rcases hp k hk with h3 | ⟨o, ho, hc⟩
    · exact h.pr k h3
    · refine ⟨blk_lt ho, ?_, ?_⟩
      · intro e; subst e; rw [h.hc] at ho; cases ho; simp [Obj.isCells] at hc
      · intro e; subst e; rw [h1] at ho; cases ho; simp [Obj.isCells] at hc
end
theorem R_cut {W : World} {base : Nat} {ok : Nat → Prop} {ad : Addr} {c : Nat} {xs : List Int} (h : Kd.R (Kd.int .i64) 3 W base ok (.slice (some ad) xs.length c) xs) (k : Nat) (hk : k ≤ xs.length) : Kd.R (Kd.int .i64) 3 W base ok (.slice (some ad) k c) (xs.take k) := by
  obtain ⟨h1, inner, ⟨h2, h3⟩, h4, h5⟩ := h
  have hi : inner.length = xs.length := by simpa [Kd.int, Kd.scalar] using h4
  rcases h3 with ⟨e, _⟩ | ⟨g, cap, cur, e, q1, q2, q3, q4, q5, q6⟩
  · cases e
  cases e
  refine ⟨fun j hj => h1 j hj, inner.take k, ⟨by simp [hi, Kd.int, Kd.scalar], .inr ⟨g, c, cur, by simp [Nat.min_eq_left hk], q1, q2, by simp; omega, q4, q5, ?_⟩⟩, by simp [hi, Kd.int, Kd.scalar], fun j p hj => ?_⟩
  · have e1 : (xs.take k).length * (Kd.int .i64).sz = k := by simp [Kd.int, Kd.scalar]; omega
    have e2 : xs.length * (Kd.int .i64).sz = xs.length := by simp [Kd.int, Kd.scalar]
    rw [e2] at q6
    rw [e1, ← q6, List.take_take, Nat.min_eq_left hk]
  · have hjk : j < k := by
      have := (List.getElem?_eq_some_iff.1 hj).1
      simp at this; omega
    rw [List.getElem?_take_of_lt hjk] at hj
    have h6 := h5 j p hj
    have e3 : ((inner.take k).drop (j * (Kd.int .i64).sz)).take (Kd.int .i64).sz = (inner.drop (j * (Kd.int .i64).sz)).take (Kd.int .i64).sz := by
      have e4 : (Kd.int .i64).sz = 1 := rfl
      rw [e4, Nat.mul_one, List.drop_take, List.take_take, Nat.min_eq_left (by omega)]
    rw [e3]
    exact (Kd.int .i64).M_mono (fun q hq => ⟨hq.1, hq.2⟩) h6
end Go.Proofs.YtfgbkklhjocmjaaDoor.Xq
namespace Go.Proofs.YtfgbkklhjocmjaaDoor.Xq
open Go.RowKit Go.Shelf Go.Proofs.YtfgbkklhjocmjaaDoorW.PrintWords Go.Proofs.YtfgbkklhjocmjaaDoorW.PrintLast Go.Proofs.YtfgbkklhjocmjaaDoor.Gv
attribute [local go_sem] Oper.semAt_some
theorem grownBy_drewN' (w : World) (m : Nat) : w.grownBy (w.drewN m) none := ⟨rfl, rfl, rfl, Nat.le_refl _, fun j _ _ => rfl⟩
structure NextRd (Ba Bg Bv : Nat) (A : Option Addr) (c : Nat) (l : List S53) (v : Int) (i : Nat) (W : World) : Prop where
  ca : W.cell? ⟨Ba, 0, none⟩ = some (.int .i64 i)
  cg : W.cell? ⟨Bg, 1, none⟩ = some (.slice A l.length c)
  cv : W.cell? ⟨Bv, 0, none⟩ = some (.int .i64 v)
  es : Kd.C k53 W A l.length l
theorem NextRd.below {Ba Bg Bv : Nat} {A : Option Addr} {c : Nat} {l : List S53} {v : Int} {i : Nat} {W W' : World} (h : NextRd Ba Bg Bv A c l v i W) (hb : Below W.heap.size W W') : NextRd Ba Bg Bv A c l v i W' :=
  ⟨(hb.cell (World.block_lt_of_cell? _ _ h.ca)).trans h.ca, (hb.cell (World.block_lt_of_cell? _ _ h.cg)).trans h.cg, (hb.cell (World.block_lt_of_cell? _ _ h.cv)).trans h.cv, Kd.C_below h.es hb⟩
set_option maxRecDepth 100000 in
set_option maxHeartbeats 2000000 in
theorem next1_in (n : Nat) (hn : 1 ≤ n) (lp Ba Bg Bv : Nat) (A : Option Addr) (c : Nat) (l : List S53) (v : Int) (i m : Nat)
    (hm : As2 (i + m ≤ l.length ∧ (∀ j, j < m → (rd_T53 l ((i + j : Nat) : Int)).f0 = v) ∧ (i + m < l.length → (rd_T53 l ((i + m : Nat) : Int)).f0 ≠ v)))
    (J Jx : List Int → World → Prop) (W : World) (hJ : AbidesFrom W.heap.size J)
    (hY : ∀ pre x W1, J pre W1 → pre.length < m → YieldAt Fence.wide (n - 1) Tryd.prog lp #[.int .i64 x] W1 fun e W' =>
      (e = .returned (.bool true) ∧ J (pre ++ [x]) W' ∧ (NextRd Ba Bg Bv A c l v i W1 → NextRd Ba Bg Bv A c l v i W')) ∨ (e = .returned (.bool false) ∧ Jx (pre ++ [x]) W'))
    (hR0 : NextRd Ba Bg Bv A c l v i W) (h0 : J [] W) :
    CallsIn Fence.wide n Tryd.prog 94 #[.func (.yield lp) #[] #[], .pointer (some ⟨Ba, 0, none⟩), .pointer (some ⟨Bg, 0, none⟩), .pointer (some ⟨Bv, 0, none⟩)] W fun e W' => (∃ v, e = .returned v) ∧
      ((∃ ys, ys = seg l i m ∧ J ys W') ∨ (∃ pre, (∃ k, k ≤ m ∧ pre = seg l i k) ∧ Jx pre W')) := by
  have HR := As2.mk hR0
  have ca := hR0.ca
  clear hR0
  refine callsIn_of_wp Tryd.func94 rfl trivial ?_ rfl
  simp only [Tryd.ntmps94, List.size_toArray, List.length_cons, List.length_nil, Nat.reduceAdd, Nat.reduceSub, Array.replicate_succ, Array.replicate_zero, List.push_toArray, List.append_toArray, List.nil_append, List.cons_append]
  gi_wp2
  gi_loopw [5] (fun p wr => ∃ k : Nat, k ≤ m ∧ p = .int .i64 ((i + k : Nat) : Int) ∧ As2 (J (seg l i k) wr) ∧ As2 (NextRd Ba Bg Bv A c l v i wr))
    (fun p _ => i + m - (intOf p).toNat)
  case atStart => exact ⟨0, Nat.zero_le _, rfl, ⟨h0⟩, HR⟩
  case round =>
    clear HR h0 ca
    obtain ⟨k, hk, rfl, hJs, HR⟩ := hrel
    have ca := HR.out.ca
    have cg := HR.out.cg
    have cv := HR.out.cv
    have hml := hm.out.1
    have hcap := HR.out.es.2.1
    by_cases hlt : i + k < l.length
    · obtain ⟨ad, rfl, c0, c1⟩ := at_T53 HR.out.es ((i + k : Nat) : Int) (by omega) (by omega)
      rw [Int.toNat_natCast] at c0 c1
      have hlt' : ((i + k : Nat) : Int) < (l.length : Int) := by omega
      generalize hix : i + k = ix at c0 c1 hlt hlt'
      have HIX := As2.mk hix
      clear hix
      generalize hy : rd_T53 l (ix : Int) = y at c0 c1
      have Y := As2.mk hy
      clear hy
      by_cases hv : y.f0 = v
      · have hkm : k < m := by
          rcases Nat.lt_or_ge k m with h | h
          · exact h
          · exfalso
            obtain rfl : k = m := by omega
            have := hm.out.2.2 (by have := HIX.out; omega)
            rw [HIX.out, Y.out] at this
            exact this hv
        have hvd : decide (y.f0 = v) = true := decide_eq_true hv
        gi_wp2_with fail
        gi_quiet (fail)
        have J2 := As2.mk (hJ (seg l i k) wr (wr.drewN nq) none hJs.out (grownBy_drewN' wr nq) (fun r e => by cases e))
        have R2 := As2.mk (HR.out.below (pw_below_drewN (Below.refl _ _) nq))
        obtain ⟨fn, tmps, assign, body, hy, hR⟩ := hY (seg l i k) y.f1 _ J2.out (by rw [seg_length]; exact hkm)
        clear J2 hY
        gi_wp2
        refine hR.mono ?_
        rintro e W3 (⟨rfl, hJ3, hk3⟩ | ⟨rfl, hJx3⟩)
        · have R3 := As2.mk (hk3 R2.out)
          have J3 := As2.mk hJ3
          clear hk3 hJ3 hR
          gi_wp2
          go_roundw
          case rel => exact ⟨k + 1, by omega, by have := HIX.out; simp; omega, ⟨by rw [seg_succ, HIX.out, Y.out]; exact J3.out⟩, R3⟩
          case measure => have := HIX.out; simp [intOf]; omega
        · have JX := As2.mk hJx3
          clear hJx3 hR
          gi_wp2
          refine bodyPost_ret (results_none rfl _ _ _) rfl ?_
          exact ⟨⟨_, rfl⟩, .inr ⟨_, ⟨k + 1, by omega, rfl⟩, by rw [seg_succ, HIX.out, Y.out]; exact JX.out⟩⟩
      · have hvd : (y.f0 == v) = false := by simpa using hv
        have hkm : k = m := by
          rcases Nat.lt_or_ge k m with h | h
          · exfalso
            have := hm.out.2.1 k h
            rw [HIX.out, Y.out] at this
            exact hv this
          · omega
        have KM := As2.mk hkm
        clear hkm hv
        gi_wp2_with fail
        gi_quiet (fail)
        have J2 := As2.mk (hJ (seg l i k) wr (wr.drewN nq) none hJs.out (grownBy_drewN' wr nq) (fun r e => by cases e))
        gi_wp2
        go_end0
        exact ⟨⟨_, rfl⟩, .inl ⟨_, rfl, by rw [← KM.out]; exact J2.out⟩⟩
    · have hkm : k = m := by omega
      have hlt' : ¬ ((i + k : Nat) : Int) < (l.length : Int) := by omega
      have hltd : decide (((i + k : Nat) : Int) < (l.length : Int)) = false := decide_eq_false hlt'
      generalize hix : i + k = ix at hlt hlt' hltd
      have KM := As2.mk hkm
      clear hkm
      gi_wp2_with fail
      gi_quiet (fail)
      have J2 := As2.mk (hJ (seg l i k) wr (wr.drewN nq) none hJs.out (grownBy_drewN' wr nq) (fun r e => by cases e))
      gi_wp2
      go_end0
      exact ⟨⟨_, rfl⟩, .inl ⟨_, rfl, by rw [← KM.out]; exact J2.out⟩⟩
theorem next_stops (n : Nat) (hn : 1 ≤ n) (Ba Bg Bv : Nat) (A : Option Addr) (c : Nat) (l : List S53) (v : Int) (i : Nat) (hr : Rising l) (ha : NextAt l v i) (w : World) (hR : NextRd Ba Bg Bv A c l v i w) :
    SeqStopsK Fence.wide n Tryd.prog 94 #[.pointer (some ⟨Ba, 0, none⟩), .pointer (some ⟨Bg, 0, none⟩), .pointer (some ⟨Bv, 0, none⟩)] (fun x : Int => #[Value.int .i64 x])
      (fun W W' => NextRd Ba Bg Bv A c l v i W → NextRd Ba Bg Bv A c l v i W') (fun ys => ys = succL l v) (fun pre => pre <+: succL l v) (succL l v).length w := fun lp J Jx W hW hJ hJx hY h0 => by
  obtain ⟨m, h1, h2, h3, h4⟩ := succ_seg l v i hr ha
  have hlen : (succL l v).length = m := by rw [← h4, seg_length]
  refine (next1_in n hn lp Ba Bg Bv A c l v i m ⟨h1, h2, h3⟩ J Jx W hJ (fun pre x W1 hj hl => hY pre x W1 hj (by rw [hlen]; exact hl)) (hR.below hW) h0).mono ?_
  rintro e W' ⟨he, ⟨ys, rfl, hj⟩ | ⟨pre, ⟨k, hk, rfl⟩, hj⟩⟩
  · exact ⟨he, .inl ⟨_, h4, hj⟩⟩
  · refine ⟨he, .inr ⟨_, ?_, hj⟩⟩
    rw [← h4]
    obtain ⟨d, rfl⟩ : ∃ d, m = k + d := ⟨m - k, by omega⟩
    exact ⟨(List.range d).map fun j : Nat => (rd_T53 l ((i + (k + j) : Nat) : Int)).f1, by simp [seg, List.range_add, Function.comp_def]⟩
theorem putObj_cell {W : World} {lp : Nat} {o o' : Obj} (h : W.heap[lp]? = some o) (ho : o.isCells = false) {a : Addr} {v : Value} (hc : W.cell? a = some v) : (W.putObj lp o').cell? a = some v := by
  by_cases e : a.block = lp
  · exfalso
    rw [World.cell?, e, h] at hc
    cases o <;> simp [Obj.isCells] at ho <;> simp at hc
  · exact (World.cell?_of_block (World.putObj_heap_other e)).trans hc
theorem C53_cells {W W' : World} {A : Option Addr} {l : List S53} {n : Nat} (h : Kd.C k53 W A n l) (hc : ∀ a v, W.cell? a = some v → W'.cell? a = some v) : Kd.C k53 W' A n l := by
  refine ⟨h.1, h.2.1, fun hp => ?_⟩
  obtain ⟨ad, e, hh⟩ := h.2.2 hp
  refine ⟨ad, e, fun j p hj => ?_⟩
  obtain ⟨cs, h1, h2, h3⟩ := hh j p hj
  refine ⟨cs, h1, ?_, fun i u hi => hc _ _ (h3 i u hi)⟩
  obtain rfl := k53_open h2
  exact k53_mk W' p
theorem NextRd.cells {Ba Bg Bv : Nat} {A : Option Addr} {c : Nat} {l : List S53} {v : Int} {i : Nat} {W W' : World} (h : NextRd Ba Bg Bv A c l v i W) (hc : ∀ a v, W.cell? a = some v → W'.cell? a = some v) : NextRd Ba Bg Bv A c l v i W' :=
  ⟨hc _ _ h.ca, hc _ _ h.cg, hc _ _ h.cv, C53_cells h.es hc⟩
theorem NextRd.putObj {Ba Bg Bv : Nat} {A : Option Addr} {c : Nat} {l : List S53} {v : Int} {i : Nat} {W : World} {lp : Nat} {o : Obj} (o' : Obj) (h : NextRd Ba Bg Bv A c l v i W) (hl : W.heap[lp]? = some o) (ho : o.isCells = false) : NextRd Ba Bg Bv A c l v i (W.putObj lp o') :=
  h.cells (fun _ _ hc => putObj_cell hl ho hc)
theorem nextK_t {Ba Bg Bv : Nat} {A : Option Addr} {c : Nat} {l : List S53} {v : Int} {i : Nat} {W1 W2 W3 : World} (h : NextRd Ba Bg Bv A c l v i W1 → NextRd Ba Bg Bv A c l v i W2) (k : NextRd Ba Bg Bv A c l v i W2 → NextRd Ba Bg Bv A c l v i W3) : NextRd Ba Bg Bv A c l v i W1 → NextRd Ba Bg Bv A c l v i W3 := fun x => k (h x)
theorem nextK_b {N : Nat} {Ba Bg Bv : Nat} {A : Option Addr} {c : Nat} {l : List S53} {v : Int} {i : Nat} (W : World) (lp : Nat) (o o' : Obj) (_ : N ≤ lp) (hl : W.heap[lp]? = some o) (ho : o.isCells = false) (_ : o.isWalk = false) : NextRd Ba Bg Bv A c l v i W → NextRd Ba Bg Bv A c l v i (W.putObj lp o') := fun h => h.putObj o' hl ho
theorem next_own {β : Type} (Ba Bg Bv : Nat) (A : Option Addr) (c : Nat) (l : List S53) (v : Int) (i : Nat) : Own (fun (_ : β) W => NextRd Ba Bg Bv A c l v i W) := fun _ X Y row hs hg hr => by
  refine hs.cells (fun a u hc => ?_)
  exact Go.cell_kept hc hg hr
end Go.Proofs.YtfgbkklhjocmjaaDoor.Xq
namespace Go.Proofs.YtfgbkklhjocmjaaDoor.Xq
open Go.RowKit Go.Shelf Go.Proofs.YtfgbkklhjocmjaaDoorW.PrintWords Go.Proofs.YtfgbkklhjocmjaaDoorW.PrintLast Go.Proofs.YtfgbkklhjocmjaaDoor.Gv
def cmpTo (v : Int) (x : S53) : Int := orI (cmpI x.f0 v) (cmpI x.f1 0)
theorem cmpTo_neg {v : Int} {x : S53} (h : 0 ≤ x.f1) : cmpTo v x < 0 ↔ x.f0 < v := by
  unfold cmpTo orI cmpI
  by_cases h1 : x.f0 < v
  · simp [h1]
  · by_cases h2 : v < x.f0
    · have : ¬ x.f0 < v := h1
      simp [h1, h2]
    · simp only [h1, h2, if_false, if_true]
      by_cases h3 : x.f1 < 0
      · omega
      · by_cases h4 : 0 < x.f1
        · simp [h3, h4]
        · simp [h3, h4]
theorem cmp68_below (v : Int) (x : S53) (W : World) : Calls Tryd.prog 68 (#[.agg #[.int .i64 x.f0, .int .i64 x.f1], .agg #[.int .i64 v, .int .i64 0]] ++ #[]) W fun e w' => e = .returned (.int .i64 (cmpTo v x)) ∧ Below W.heap.size W w' :=
  (flow_compare_calls x.f0 x.f1 v 0 W).mono (fun e w' h => ⟨h.1, by
    obtain ⟨_, n, o1, o2, o3, rfl⟩ := h
    exact pw_below_drewN ((((Below.refl _ _).alloc (Nat.le_refl _) _).alloc (by simp) _).alloc (by simp; omega) _) n⟩)
set_option maxRecDepth 100000 in
set_option maxHeartbeats 1000000 in
theorem next_calls (nn v : Int) (A : Option Addr) (c : Nat) (l : List S53) (w : World) (hC : Kd.C k53 w A l.length l) (hsz : l.length < 4611686018427387904) (hr : Rising l) (he : Ends l) :
    Calls Tryd.prog 73 #[.agg #[.int .i64 nn, .slice A l.length c], .int .i64 v] w fun e w' => ∃ (Ba Bg Bv i : Nat), e = .returned (.func (.func 94) #[] #[.pointer (some ⟨Ba, 0, none⟩), .pointer (some ⟨Bg, 0, none⟩), .pointer (some ⟨Bv, 0, none⟩)]) ∧
      As2 (NextAt l v i) ∧ NextRd Ba Bg Bv A c l v i w' ∧ Below w.heap.size w w' ∧ (w.heap.size ≤ Ba ∧ w.heap.size ≤ Bg ∧ w.heap.size ≤ Bv) ∧
      As2 (w'.heap[Ba]? = some (.cells #[.int .i64 i] 3) ∧ w'.heap[Bg]? = some (.cells #[.int .i64 nn, .slice A l.length c] 24) ∧ w'.heap[Bv]? = some (.cells #[.int .i64 v] 3)) := by
  have hmono : ∀ a b : Nat, a ≤ b → b < l.length → cmpTo v (rd_T53 l b) < 0 → cmpTo v (rd_T53 l a) < 0 := by
    intro a b hab hb h
    rw [cmpTo_neg (he _ hb)] at h
    rw [cmpTo_neg (he _ (by omega))]
    have := hr a b hab hb
    omega
  have H1 := As2.mk hmono
  have H2 := As2.mk hC
  have H3 := As2.mk he
  clear hmono hC he
  go_enter Tryd.func73, Tryd.ntmps73
  go_wp2_with (go_at_call 93; refine (bsf_calls v 0 (cmpTo v) 68 #[] A c l _ (fun args w => enters_ Tryd.func68 (by kernel_rfl) rfl args w) ?hcmp ?hC hsz H1.out).mono ?_; (case hcmp => exact fun W x _ => cmp68_below v x W); (case hC => exact Kd.C_alloc (Kd.C_alloc H2.out _) _); rintro e w' ⟨i, b, rfl, q, hb⟩; have Q := q; have HB := As2.mk hb; clear q hb)
  go_ret
  obtain ⟨w2, hw2⟩ : ∃ w2, w2 = (w.alloc (.cells #[.int .i64 nn, .slice A l.length c] 24)).alloc (.cells #[.int .i64 v] 3) := ⟨_, rfl⟩
  have hB := HB.out
  rw [← hw2] at hB
  have hg : w2.heap[w.heap.size]? = some (.cells #[.int .i64 nn, .slice A l.length c] 24) := by
    subst hw2
    exact blk_alloc (heap_alloc_new w _) _
  have hv : w2.heap[w.heap.size + 1]? = some (.cells #[.int .i64 v] 3) := by
    subst hw2
    have := heap_alloc_new (w.alloc (.cells #[.int .i64 nn, .slice A l.length c] 24)) (.cells #[.int .i64 v] 3)
    rwa [World.size_alloc] at this
  have hb2 : Below w.heap.size w w2 := by
    subst hw2
    exact ((Below.refl _ _).alloc (Nat.le_refl _) _).alloc (by simp) _
  have hsz2 : w2.heap.size = w.heap.size + 2 := by subst hw2; simp
  have hC2 : Kd.C k53 w2 A l.length l := Kd.C_below H2.out hb2
  clear hw2
  have hbA : Below w2.heap.size w2 (w'.alloc (.cells #[.int .i64 i] 3)) := hB.alloc hB.size _
  have ga := heap_alloc_new w' (.cells #[.int .i64 i] 3)
  have gg := blk_below hg hbA
  have gv := blk_below hv hbA
  refine ⟨w'.heap.size, w.heap.size, w.heap.size + 1, i, rfl, ⟨Q.out.1, ?_, ?_⟩, ⟨(blk_cell ga 0).trans rfl, (blk_cell gg 1).trans rfl, (blk_cell gv 0).trans rfl, Kd.C_below hC2 hbA⟩, below_step hb2 hbA, ⟨by have := hB.size; omega, Nat.le_refl _, by omega⟩, ⟨ga, gg, gv⟩⟩
  · intro t ht
    exact (cmpTo_neg (H3.out t (by have := Q.out.1; omega))).1 (Q.out.2.1 t ht)
  · intro t ht htl
    have h1 := Q.out.2.2.1 t ht htl
    have h2 := cmpTo_neg (v := v) (H3.out t htl)
    omega
end Go.Proofs.YtfgbkklhjocmjaaDoor.Xq
namespace Go.Proofs.YtfgbkklhjocmjaaDoor.Xq
open Go.RowKit
theorem wpIn_loop_ghost {F : Fence} {m : Nat} {P : Program} {Q : Exit → Act → World → Prop} {a : Act} {w : World} {c : Code} (I : Nat → Act → World → Prop) (n₀ : Nat) (h₀ : I n₀ a w)
    (round : ∀ n a w, I n a w → c.wpIn F m P (Exit.then (fun a' w' => ∃ n', n' < n ∧ I n' a' w') Q) a w) : (Code.loop c).wpIn F m P Q a w := by
  refine wpIn_loop (fun a w => ∃ n, I n a w) (fun a w => leastOf (fun n => I n a w)) ⟨n₀, h₀⟩ ?_
  intro a w hI
  refine wpIn_mono (round _ a w (leastOf_spec hI).1) ?_
  intro e a' w' hq
  cases e with
  | normal =>
    obtain ⟨n', hlt, hI'⟩ := hq
    exact show (∃ n, I n a' w') ∧ leastOf (fun n => I n a' w') < leastOf (fun n => I n a w) from ⟨⟨n', hI'⟩, Nat.lt_of_le_of_lt ((leastOf_spec ⟨n', hI'⟩).2 n' hI') hlt⟩
  | exit id => exact hq
  | goto l => exact hq
  | ret => exact hq
  | panic ch => exact hq
  | outgrown => exact hq
def mk_ (D : Nat) : Deferred := { target := .collected D, args := #[] }
structure SameBut (ds : List Nat) (W W' : World) : Prop where
  os : W'.os = W.os
  tape : W'.tape = W.tape
  output : W'.output = W.output
  size : W'.heap.size = W.heap.size
  same : ∀ k, k ∉ ds → W'.heap[k]? = W.heap[k]?
theorem SameBut.below {ds : List Nat} {W W' : World} (h : SameBut ds W W') {N : Nat} (hN : ∀ D ∈ ds, N ≤ D) : Below N W W' :=
  ⟨h.os, h.tape, h.output, by rw [h.size]; exact Nat.le_refl _, fun k hk => h.same k (fun hm => by have := hN k hm; omega)⟩
theorem leaves_marks {F : Fence} {n : Nat} {P : Program} {fn : Func} {tmps : Array Value} {R : Ending → World → Prop} : ∀ (ds : List Nat) (W : World), ds.Nodup → (∀ D ∈ ds, W.heap[D]? = some (.deferred (some []))) →
    (∀ W', SameBut ds W W' → LeavesInM F n P fn tmps R [] .returning W') → LeavesInM F n P fn tmps R (ds.map mk_) .returning W
  | [], W, _, _, h => h W ⟨rfl, rfl, rfl, rfl, fun _ _ => rfl⟩
  | D :: r, W, hn, hd, h => by
    have hD := hd D (by simp)
    obtain ⟨h1, h2⟩ := List.nodup_cons.1 hn
    refine ⟨by simp, .inl ⟨D, _, rfl, run_takeDeferred hD, ?_⟩⟩
    refine leaves_marks r _ h2 (fun D' hD' => ?_) (fun W' hW' => h W' ?_)
    · exact (World.putObj_heap_other (fun e => h1 (by rw [← e]; exact hD'))).trans (hd D' (by simp [hD']))
    · refine ⟨hW'.os, hW'.tape, hW'.output, by rw [hW'.size]; simp [World.putObj], fun k hk => ?_⟩
      have hk2 : k ≠ D ∧ k ∉ r := by simpa using hk
      exact (hW'.same k hk2.2).trans (World.putObj_heap_other hk2.1)
end Go.Proofs.YtfgbkklhjocmjaaDoor.Xq
namespace Go.Proofs.YtfgbkklhjocmjaaDoor.Xq
open Go.RowKit Go.Shelf Go.Proofs.YtfgbkklhjocmjaaDoorW.PrintWords Go.Proofs.YtfgbkklhjocmjaaDoorW.PrintLast Go.Proofs.YtfgbkklhjocmjaaDoor.Gv
attribute [local go_sem] Oper.semAt_some
def reachF (n : Int) (l : List S53) : Nat → List Nat × List Int → Option (List Nat)
  | 0, _ => none
  | k + 1, s => if s.2 = [] then some s.1 else if s.2.length ≤ 100000 then reachF n l k ((succL l (s.2.getLast?.getD 0)).foldl (addF n) (s.1, s.2.dropLast)) else none
def graph_Reach.f (a0_0 : Int) (l0_1 : List S53) (l1 : List Int) : Option (List Int) :=
  if chk a0_0 l0_1 = 0 then (if l1.length ≤ 60000 then (reachF a0_0 l0_1 10000 (l1.foldl (addF a0_0) (List.replicate (a0_0.toNat / 64 + 1) 0, []))).map (listW 0) else none) else some []
theorem addF_len (n : Int) (s : List Nat × List Int) (v : Int) : (addF n s v).1.length = s.1.length ∧ (addF n s v).2.length ≤ s.2.length + 1 := by
  unfold addF
  by_cases h : 0 ≤ v ∧ v < n ∧ hasN s.1 v.toNat = false
  · rw [if_pos h]; exact ⟨setN_len _ _, by simp⟩
  · rw [if_neg h]; exact ⟨rfl, by omega⟩
theorem addFs_len (n : Int) : ∀ (xs : List Int) (s : List Nat × List Int), (xs.foldl (addF n) s).1.length = s.1.length ∧ (xs.foldl (addF n) s).2.length ≤ s.2.length + xs.length
  | [], s => ⟨rfl, by simp⟩
  | x :: r, s => by
    have h1 := addF_len n s x
    have h2 := addFs_len n r (addF n s x)
    rw [List.foldl_cons, List.length_cons]
    exact ⟨h2.1.trans h1.1, by omega⟩
theorem addFs_snoc (n : Int) (s : List Nat × List Int) (l : List Int) (j : Nat) (hj : j < l.length) {v : Int} (hv : rd l (j : Int) = v) : (l.take (j + 1)).foldl (addF n) s = addF n ((l.take j).foldl (addF n) s) v := by
  have e : l.take (j + 1) = l.take j ++ [l[j]] := List.take_succ_eq_append_getElem hj
  have e2 : rd l (j : Int) = l[j] := by simp [rd, hj]
  rw [e, List.foldl_append, ← hv, e2]
  rfl
theorem madeW (m : Nat) : madeCells #[.int .u64 0] m = (((List.replicate m 0).map fun x : Nat => Value.int .u64 (x : Int)).toArray) := by
  apply Array.ext
  · simp [madeCells]
  · intro i h1 h2
    simp [madeCells, Nat.mod_one]
theorem graph_Reach.no (a0_0 : Int) (A0_1 : Option Addr) (c0_1 : Nat) (l0_1 : List S53) (A1 : Option Addr) (c1 : Nat) (l1 : List Int) (w : World) (hr0_1 : Kd.C k53 w A0_1 l0_1.length l0_1) (hc0_1 : l0_1.length ≤ c0_1) (h : ¬ chk a0_0 l0_1 = 0) :
    Calls Tryd.prog 35 #[.agg #[.int .i64 a0_0, .slice A0_1 l0_1.length c0_1], .slice A1 l1.length c1] w fun e w' => ∃ v0_ : Value, e = .returned v0_ ∧ Kd.R (Kd.int .i64) 3 w' w.heap.size (fun _ => True) v0_ [] ∧ Below w.heap.size w w' := by
  have R0 := As2.mk hr0_1
  have HF := As2.mk (Check_f a0_0 l0_1 _ (Nat.le_refl _))
  clear hr0_1
  generalize chk a0_0 l0_1 = ch at HF h
  go_enter Tryd.func35, Tryd.ntmps35
  go_wp2_with (go_at_call 34; refine (graph_Check.calls _ a0_0 A0_1 c0_1 l0_1 ch _ ?hr hc0_1 HF.out).mono ?_; (case hr => exact Kd.C_alloc R0.out _); rintro e w1 ⟨rfl, hb⟩; have B1 := As2.mk hb; clear hb)
  go_ret
  exact ⟨_, rfl, Kd.R_nil _ _ _ _ _, below_step ((Below.refl _ _).alloc (Nat.le_refl _) _) B1.out⟩
set_option maxRecDepth 100000 in
set_option maxHeartbeats 4000000 in
theorem graph_Reach.yes (a0_0 : Int) (A0_1 : Option Addr) (c0_1 : Nat) (l0_1 : List S53) (A1 : Option Addr) (c1 : Nat) (l1 : List Int) (ws : List Nat) (w : World) (hr0_1 : Kd.C k53 w A0_1 l0_1.length l0_1) (hc0_1 : l0_1.length ≤ c0_1) (hr1 : Kd.C (Kd.int .i64) w A1 l1.length l1) (hc1 : l1.length ≤ c1) (hG_ : TabW w)
    (hv : Valid a0_0 l0_1) (hlen : l1.length ≤ 60000) (h : reachF a0_0 l0_1 10000 (l1.foldl (addF a0_0) (List.replicate (a0_0.toNat / 64 + 1) 0, [])) = some ws) :
    CallsIn Fence.wide 3 Tryd.prog 35 #[.agg #[.int .i64 a0_0, .slice A0_1 l0_1.length c0_1], .slice A1 l1.length c1] w fun e w' => ∃ v0_ : Value, e = .returned v0_ ∧ Kd.R (Kd.int .i64) 3 w' w.heap.size (fun _ => True) v0_ (listW 0 ws) ∧ Below w.heap.size w w' := by
  have R0 := As2.mk hr0_1
  have R1 := As2.mk hr1
  have HG := As2.mk hG_
  have HV := As2.mk hv
  have H := As2.mk h
  obtain ⟨n, rfl⟩ := Int.eq_ofNat_of_zero_le hv.n0
  have hn1 := hv.n1
  have HF := As2.mk (show graph_Check.f (l0_1.length + 4) (n : Int) l0_1 = some 0 by rw [Check_f _ _ _ (Nat.le_refl _), (chk_zero _ _).2 hv])
  obtain ⟨m, hm⟩ : ∃ m, m = n / 64 + 1 := ⟨_, rfl⟩
  have hm2 : n < 64 * m := by omega
  have hm3 : m ≤ 200 := by omega
  have HM := As2.mk hm
  have hwr : (n : Int) / 64 + 1 = (m : Int) := by omega
  clear hr0_1 hr1 hG_ hv h hm
  have hmk : ∀ W : World, (Instr.makeSlice 76 (.int .i64 (m : Int)) (.int .i64 (m : Int))).run Tryd.prog W = .ok (.slice (some ⟨W.heap.size, 0, none⟩) m m) (W.alloc (.cells (madeCells #[.int .u64 0] m) 87)) := by
    intro W
    obtain ⟨i0, hi, hz⟩ := Option.map_eq_some_iff.1 (show (Tryd.prog.info? 87).map (fun i => (i.zero, i.size, i.bytes)) = some (some (.int .u64 0), 1, 8) by kernel_rfl)
    simp only [Prod.mk.injEq] at hz
    obtain ⟨hz0, hz1, hz2⟩ := hz
    have z := run_make (P := Tryd.prog) W 76 87 i0 _ Tryd.underlying76 hi hz0 .i64 .i64 (m : Int) (m : Int) (by omega) (by omega) (by rw [hz2]; omega) (by omega)
    rw [hz1, Int.toNat_natCast, Nat.mul_one] at z
    exact z
  refine callsIn_of_wp_marks Tryd.func35 rfl trivial ?_ rfl
  simp only [Tryd.ntmps35, List.size_toArray, List.length_cons, List.length_nil, Nat.reduceAdd, Nat.reduceSub, Array.replicate_succ, Array.replicate_zero, List.push_toArray, List.append_toArray, List.nil_append, List.cons_append]
  gi_wp2_with (refine ⟨trivial, ?_⟩; gi_at_call 34; refine (callsIn_wide.2 (graph_Check.calls _ (n : Int) A0_1 c0_1 l0_1 0 _ ?hr hc0_1 HF.out)).mono ?_; (case hr => exact Kd.C_alloc R0.out _); rintro e w1 ⟨rfl, hb⟩; have B1 := As2.mk hb; clear hb; have kk := blk_below (heap_alloc_new w (.cells #[.int .i64 n, .slice A0_1 l0_1.length c0_1] 24)) B1.out; have g0 : w1.cell? ⟨w.heap.size, 0, none⟩ = some (.int .i64 n) := (blk_cell kk 0).trans rfl; have g1 : w1.cell? ⟨w.heap.size, 1, none⟩ = some (.slice A0_1 l0_1.length c0_1) := (blk_cell kk 1).trans rfl; have KK := As2.mk kk; have hs1 := blk_lt kk; clear kk)
  obtain ⟨W2, hW2⟩ : ∃ W2, W2 = ((((w1.alloc (.cells (madeCells #[.int .u64 0] m) 87)).alloc (.cells #[.slice (some ⟨w1.heap.size, 0, none⟩) m m] 76)).alloc (.cells #[.slice none 0 0] 31)).alloc (.cells #[.func (.func 71) #[] #[.pointer (some ⟨w.heap.size, 0, none⟩), .pointer (some ⟨w1.heap.size + 1, 0, none⟩), .pointer (some ⟨w1.heap.size + 1 + 1, 0, none⟩)]] 88)) := ⟨_, rfl⟩
  have hz2 : W2.heap.size = w1.heap.size + 4 := by subst hW2; simp
  have hlt1 : w.heap.size + 1 ≤ w1.heap.size := hs1
  have B12 : Below w1.heap.size w1 W2 := by
    subst hW2
    exact ((((Below.refl _ _).alloc (Nat.le_refl _) _).alloc (by simp) _).alloc (by simp; omega) _).alloc (by simp; omega) _
  have BW := As2.mk (below_step (below_step ((Below.refl w.heap.size w).alloc (Nat.le_refl _) _) B1.out) B12)
  have q0 : W2.heap[w1.heap.size]? = some (.cells (madeCells #[.int .u64 0] m) 87) := by
    subst hW2
    exact blk_alloc (blk_alloc (blk_alloc (heap_alloc_new w1 _) _) _) _
  have q1 : W2.heap[w1.heap.size + 1]? = some (.cells #[.slice (some ⟨w1.heap.size, 0, none⟩) m m] 76) := by
    subst hW2
    have := heap_alloc_new (w1.alloc (.cells (madeCells #[.int .u64 0] m) 87)) (.cells #[.slice (some ⟨w1.heap.size, 0, none⟩) m m] 76)
    rw [World.size_alloc] at this
    exact blk_alloc (blk_alloc this _) _
  have q2 : W2.heap[w1.heap.size + 1 + 1]? = some (.cells #[.slice none 0 0] 31) := by
    subst hW2
    have := heap_alloc_new ((w1.alloc (.cells (madeCells #[.int .u64 0] m) 87)).alloc (.cells #[.slice (some ⟨w1.heap.size, 0, none⟩) m m] 76)) (.cells #[.slice none 0 0] 31)
    rw [World.size_alloc, World.size_alloc] at this
    exact blk_alloc this _
  have q3 : W2.heap[w1.heap.size + 1 + 1 + 1]? = some (.cells #[.func (.func 71) #[] #[.pointer (some ⟨w.heap.size, 0, none⟩), .pointer (some ⟨w1.heap.size + 1, 0, none⟩), .pointer (some ⟨w1.heap.size + 1 + 1, 0, none⟩)]] 88) := by
    subst hW2
    have := heap_alloc_new (((w1.alloc (.cells (madeCells #[.int .u64 0] m) 87)).alloc (.cells #[.slice (some ⟨w1.heap.size, 0, none⟩) m m] 76)).alloc (.cells #[.slice none 0 0] 31)) (.cells #[.func (.func 71) #[] #[.pointer (some ⟨w.heap.size, 0, none⟩), .pointer (some ⟨w1.heap.size + 1, 0, none⟩), .pointer (some ⟨w1.heap.size + 1 + 1, 0, none⟩)]] 88)
    rw [World.size_alloc, World.size_alloc, World.size_alloc] at this
    exact this
  have q4 : W2.heap[w.heap.size]? = some (.cells #[.int .i64 n, .slice A0_1 l0_1.length c0_1] 24) := blk_below KK.out B12
  rw [← hW2]
  clear hW2 hmk g0 g1 hs1 B12
  generalize hBg : w.heap.size = Bg at *
  generalize hgs : w1.heap.size = gs at *
  obtain ⟨Bs, hBs⟩ : ∃ Bs, Bs = gs + 1 := ⟨_, rfl⟩
  obtain ⟨Bw, hBw⟩ : ∃ Bw, Bw = gs + 1 + 1 := ⟨_, rfl⟩
  obtain ⟨Bf, hBf⟩ : ∃ Bf, Bf = gs + 1 + 1 + 1 := ⟨_, rfl⟩
  rw [← hBf] at q3 ⊢
  rw [← hBw] at q2 q3 ⊢
  rw [← hBs] at q1 q3 ⊢
  have ORD := As2.mk (show Bg < gs ∧ gs < Bs ∧ Bs < Bw ∧ Bw < Bf ∧ Bf < W2.heap.size by omega)
  have RS0 := As2.mk (show RS (n : Int) A0_1 c0_1 l0_1 Bg Bs Bw gs Bg (fun k => k = Bf) (List.replicate m 0) [] W2 from ⟨q4, by simpa using q1, by rw [← madeW]; exact q0, ⟨_, q2, Kd.R_nil _ _ _ _ _⟩, fun k hk => by subst hk; omega, fun x hx => by rw [(List.mem_replicate.1 hx).2]; omega⟩)
  have Q3 := As2.mk q3
  clear q0 q1 q2 q3 q4 hz2 hBs hBw hBf hlt1
  have HBG := As2.mk hBg
  have HGS := As2.mk hgs
  clear hBg hgs KK
  have W0E : l1.foldl (addF (n : Int)) (List.replicate ((n : Int).toNat / 64 + 1) 0, []) = l1.foldl (addF (n : Int)) (List.replicate m 0, []) := by rw [Int.toNat_natCast, HM.out]
  have H2 := As2.mk (show reachF (n : Int) l0_1 10000 (l1.foldl (addF (n : Int)) (List.replicate m 0, [])) = some ws by rw [← W0E]; exact H.out)
  clear W0E H HM
  gi_loopw [23] (fun i wr => ∃ j : Nat, i = .int .i64 j ∧ j ≤ l1.length ∧ As2 (RS (n : Int) A0_1 c0_1 l0_1 Bg Bs Bw gs Bg (fun k => k = Bf) ((l1.take j).foldl (addF (n : Int)) (List.replicate m 0, [])).1 ((l1.take j).foldl (addF (n : Int)) (List.replicate m 0, [])).2 wr) ∧ As2 (Below Bg w wr) ∧ As2 (wr.heap[Bf]? = W2.heap[Bf]?)) (fun i _ => l1.length - (intOf i).toNat)
  case atStart => exact ⟨0, rfl, Nat.zero_le _, RS0, BW, ⟨rfl⟩⟩
  case round =>
    obtain ⟨j, rfl, hj, S, BB, SF⟩ := hrel
    by_cases hlt : j < l1.length
    · obtain ⟨ad, rfl, d0⟩ := Kd.at_int (Kd.C_below R1.out (by rw [HBG.out]; exact BB.out)) (j : Int) (by omega) (by omega)
      rw [Int.toNat_natCast] at d0
      generalize hx : rd l1 (j : Int) = x at d0
      have ST := As2.mk (addFs_snoc (n : Int) (List.replicate m 0, []) l1 j hlt hx)
      have hL := addFs_len (n : Int) (l1.take j) (List.replicate m 0, [])
      generalize (l1.take j).foldl (addF (n : Int)) (List.replicate m 0, []) = sj at S ST hL
      obtain ⟨wsj, wkj⟩ := sj
      have hL1 : wsj.length = m := by simpa using hL.1
      have hL2 : wkj.length ≤ 60000 := by have := hL.2; simp at this; omega
      have HL1 := As2.mk hL1
      have f0 : wr.cell? ⟨Bf, 0, none⟩ = some (.func (.func 71) #[] #[.pointer (some ⟨Bg, 0, none⟩), .pointer (some ⟨Bs, 0, none⟩), .pointer (some ⟨Bw, 0, none⟩)]) := (blk_cell (SF.out.trans Q3.out) 0).trans rfl
      have hbw : Bg ≤ wr.heap.size := by rw [← HBG.out]; exact BB.out.size
      clear hx hL hL1
      gi_wp2_with (refine ⟨trivial, ?_⟩; gi_at_call 71; refine (callsIn_wide.2 (add_calls x (n : Int) A0_1 c0_1 l0_1 Bg Bs Bw gs Bg (fun k => k = Bf) wsj wkj wr S.out (by omega) hn1 (by rw [HL1.out]; omega) (by rw [HL1.out]; omega) hbw (by have := ORD.out; omega) (by have := ORD.out; omega) (by omega))).mono ?_; rintro e w' ⟨rfl, hs, hp, hb, _⟩; have S' := As2.mk hs; have P' := As2.mk hp; have B' := As2.mk hb; clear hs hp hb)
      exact ⟨⟨j + 1, by go_num, by omega, ⟨by rw [ST.out]; exact S'.out⟩, ⟨BB.out.trans (B'.out Bg (by have := ORD.out; omega) (by have := ORD.out; omega) (Nat.le_refl _))⟩, ⟨(P'.out Bf rfl).trans SF.out⟩⟩, by simp [intOf]; omega⟩
    · obtain rfl : j = l1.length := by omega
      rw [List.take_length] at S
      gi_wp2
      refine wpIn_loop_ghost (fun k a W => ∃ (ds : List Nat) (sk : List Nat × List Int) (x10 x11 x31 x32 x33 x34 x35 x36 x37 x38 x39 x40 x41 x42 x43 x44 x45 x46 x47 x48 x49 x50 x51 : Value), a = { tmps := #[Value.agg #[Value.int IntKind.i64 ↑n, Value.slice A0_1 l0_1.length c0_1], Value.slice A1 l1.length c1, Value.pointer (some ⟨Bg, 0, none⟩), undef, Value.slice none 0 0, Value.pointer (some ⟨Bs, 0, none⟩), Value.pointer (some ⟨Bw, 0, none⟩), Value.pointer (some ⟨Bf, 0, none⟩), undef, u9, x10, x11, Value.agg #[Value.int IntKind.i64 ↑n, Value.slice A0_1 l0_1.length c0_1], Value.int IntKind.i64 0, Value.bool false, Value.pointer (some ⟨Bg, 0, none⟩), Value.int IntKind.i64 ↑n, Value.int IntKind.i64 (↑n / 64), Value.int IntKind.i64 ↑m, Value.slice (some ⟨gs, 0, none⟩) m m, Value.func (Fn.func 71) #[] #[Value.pointer (some ⟨Bg, 0, none⟩), Value.pointer (some ⟨Bs, 0, none⟩), Value.pointer (some ⟨Bw, 0, none⟩)], Value.slice A1 l1.length c1, Value.int IntKind.i64 ↑l1.length, Value.int IntKind.i64 ↑l1.length, Value.bool false, u25, u26, u27, u28, u29, u30, x31, x32, x33, x34, x35, x36, x37, x38, x39, x40, x41, x42, x43, x44, x45, x46, x47, x48, x49, x50, x51, undef, undef], defers := ds.map mk_ } ∧ As2 (reachF (n : Int) l0_1 k sk = some ws) ∧ As2 (RS (n : Int) A0_1 c0_1 l0_1 Bg Bs Bw gs Bg (fun k => k = Bf ∨ k ∈ ds) sk.1 sk.2 W) ∧ As2 (Below Bg w W) ∧ As2 (W.heap[Bf]? = W2.heap[Bf]?) ∧ As2 (ds.Nodup ∧ ∀ D ∈ ds, Bg ≤ D ∧ W.heap[D]? = some (.deferred (some []))) ∧ As2 (sk.1.length = m)) 10000 ?start ?round
      case start =>
        exact ⟨[], _, _, _, _, _, _, _, _, _, _, _, _, _, _, _, _, _, _, _, _, _, _, _, _, rfl, H2, ⟨S.out.prot (fun k hk => .inl (by simpa using hk))⟩, BB, SF, ⟨by simp, by simp⟩, ⟨by have := (addFs_len (n : Int) l1 (List.replicate m 0, [])).1; simpa using this⟩⟩
      case round =>
        clear S BB SF
        rintro k a W ⟨ds, ⟨wsk, wkk⟩, x10, x11, x31, x32, x33, x34, x35, x36, x37, x38, x39, x40, x41, x42, x43, x44, x45, x46, x47, x48, x49, x50, x51, rfl, RF, S, BB, SF, DS, LM⟩
        replace S : As2 (RS (n : Int) A0_1 c0_1 l0_1 Bg Bs Bw gs Bg (fun k => k = Bf ∨ k ∈ ds) wsk wkk W) := S
        replace RF : As2 (reachF (n : Int) l0_1 k (wsk, wkk) = some ws) := RF
        replace LM : As2 (wsk.length = m) := LM
        obtain ⟨vw, hv1, hv2⟩ := S.out.hw
        obtain ⟨Aw, cw, hvw⟩ := Kd.R_slice hv2
        subst hvw
        have cw0 : W.cell? ⟨Bw, 0, none⟩ = some (.slice Aw wkk.length cw) := (blk_cell hv1 0).trans rfl
        have fw0 := blk_frozen hv1 0
        have HW1 := As2.mk hv1
        have HW2 := As2.mk hv2
        clear hv1 hv2
        rcases Nat.eq_zero_or_pos wkk.length with hlen0 | hpos
        · obtain rfl : wkk = [] := List.eq_nil_of_length_eq_zero hlen0
          have cs5 : W.cell? ⟨Bs, 0, none⟩ = some (.slice (some ⟨gs, 0, none⟩) wsk.length wsk.length) := (blk_cell S.out.hs 0).trans rfl
          have e1 : (wsk.map Int.ofNat).length = wsk.length := by simp
          have HL := As2.mk e1
          have HC := As2.mk (words_C S.out.hc (by have lm : wsk.length = m := LM.out; omega))
          have hwl : wsk.length ≤ 200 := by have lm : wsk.length = m := LM.out; omega
          have EW : wsk = ws := by
            have := RF.out
            cases k with
            | zero => simp [reachF] at this
            | succ k => simpa [reachF] using this
          have LF := As2.mk (show bits_List.f (wsk.map Int.ofNat) = some (listW 0 ws) by
            unfold bits_List.f
            rw [if_pos ⟨by simp; omega, fun x hx => by
              obtain ⟨y, hy, rfl⟩ := List.mem_map.1 hx
              have := S.out.lt y hy
              exact ⟨Int.natCast_nonneg _, by show (y : Int) < _; omega⟩⟩, EW]
            simp [Function.comp_def])
          clear e1 EW
          gi_wp2_with (refine ⟨trivial, ?_⟩; gi_at_call 61; rw [← HL.out]; refine (callsIn_wide.2 (bits_List.calls _ _ _ _ W HC.out (Nat.le_refl _) (TabW.below HG.out (by rw [HBG.out]; exact BB.out)) LF.out)).mono ?_; rintro e w' ⟨v0, rfl, h1, h2⟩; have G1 := As2.mk h1; have G2 := As2.mk h2; clear h1 h2)
          refine leaves_marks ds w' DS.out.1 (fun D hD => blk_below (DS.out.2 D hD).2 G2.out) ?_
          intro W' hW'
          have hb : Below w.heap.size w' W' := hW'.below (fun D hD => by rw [HBG.out]; exact (DS.out.2 D hD).1)
          refine ⟨_, results_tmp rfl _ _ _, ⟨_, rfl, ?_, ?_⟩⟩
          · have h3 := Kd.R_lower G1.out (show w.heap.size ≤ W.heap.size by rw [HBG.out]; exact Nat.le_trans (by rw [HBG.out]; exact Nat.le_refl _) BB.out.size)
            refine Kd.R_mono (Kd.R_step (Kd.R_tight rfl h3) (fun k0 hk0 hlt => hW'.same k0 (fun hm => ?_))) (fun _ _ => trivial)
            have := own_ne h3 (blk_below (DS.out.2 k0 hm).2 G2.out) rfl
            exact this hk0
          · exact (below_step (by rw [HBG.out]; exact BB.out) G2.out).trans hb
        · have hAw : ∃ ad, Aw = some ad := by
            obtain ⟨ad, cap, e, _⟩ := Kd.R_form HW2.out hpos
            cases e
            exact ⟨_, rfl⟩
          obtain ⟨ad, rfl⟩ := hAw
          have hk0 : ∃ k', k = k' + 1 := by
            cases k with
            | zero => have := RF.out; simp [reachF] at this
            | succ k => exact ⟨k, rfl⟩
          obtain ⟨k, rfl⟩ := hk0
          have RF2 : (if wkk.length ≤ 100000 then reachF (n : Int) l0_1 k ((succL l0_1 (wkk.getLast?.getD 0)).foldl (addF (n : Int)) (wsk, wkk.dropLast)) else none) = some ws := by
            have := RF.out
            rw [reachF, if_neg (fun e : wkk = [] => by rw [e] at hpos; simp at hpos)] at this
            exact this
          have hkl : wkk.length ≤ 100000 := by
            by_cases h : wkk.length ≤ 100000
            · exact h
            · rw [if_neg h] at RF2; cases RF2
          rw [if_pos hkl] at RF2
          have RF3 := As2.mk RF2
          clear RF2 RF
          obtain ⟨lw, hlw⟩ : ∃ lw, wkk.length = lw + 1 := ⟨wkk.length - 1, by omega⟩
          obtain ⟨ad2, had, d0⟩ := Kd.at_int (Kd.R_reads' HW2.out).2.2 (lw : Int) (by omega) (by omega)
          cases had
          rw [Int.toNat_natCast] at d0
          have hlast : rd wkk (lw : Int) = wkk.getLast?.getD 0 := by
            have : lw < wkk.length := by omega
            simp [rd, List.getLast?_eq_getElem?, hlw]
          rw [hlast] at d0
          have hdl : wkk.dropLast = wkk.take lw := by rw [List.dropLast_eq_take, hlw]; rfl
          rw [hdl] at RF3
          have HCUT := As2.mk (R_cut HW2.out lw (by omega))
          generalize wkk.getLast?.getD 0 = x at d0 RF3
          rw [hlw] at cw0
          have hcw : lw ≤ cw := by have := (Kd.R_reads' HW2.out).2.1; omega
          have HLW := As2.mk hlw
          have hw64 : wrap64 (lw : Int) = (lw : Int) := by unfold wrap64; omega
          have hlw5 : lw ≤ 100000 := Nat.le_of_succ_le (Nat.le_trans (Nat.le_of_eq hlw.symm) hkl)
          clear hlw hdl hlast hpos
          have cg0 : W.cell? ⟨Bg, 0, none⟩ = some (.int .i64 n) := (blk_cell S.out.hg 0).trans rfl
          have cg1 : W.cell? ⟨Bg, 1, none⟩ = some (.slice A0_1 l0_1.length c0_1) := (blk_cell S.out.hg 1).trans rfl
          have nbg : Bg ≠ Bw := by have := ORD.out; omega
          have nbg2 : Bw ≠ Bg := by have := ORD.out; omega
          obtain ⟨W3, hW3⟩ : ∃ W3, W3 = W.setCell ⟨Bw, 0, none⟩ (.slice (some ad) lw cw) := ⟨_, rfl⟩
          have S3 := As2.mk (show RS (n : Int) A0_1 c0_1 l0_1 Bg Bs Bw gs Bg (fun k => k = Bf ∨ k ∈ ds) wsk (wkk.take lw) W3 by
            subst hW3
            have hs := S.out
            have ns : Bs ≠ Bw := by have := ORD.out; omega
            have ng : gs ≠ Bw := by have := ORD.out; omega
            exact ⟨(Below.heap_setCell W ⟨Bw, 0, none⟩ _ Bg nbg).trans hs.hg, (Below.heap_setCell W ⟨Bw, 0, none⟩ _ Bs ns).trans hs.hs, (Below.heap_setCell W ⟨Bw, 0, none⟩ _ gs ng).trans hs.hc, ⟨_, blk_put HW1.out 0 _ rfl, Kd.R_set HCUT.out HW1.out (by decide) 0 _⟩, fun k hk => by obtain ⟨p1, p2, p3⟩ := hs.pr k hk; exact ⟨by simpa using p1, p2, p3⟩, hs.lt⟩)
          have BB3 := As2.mk (show Below Bg w W3 by subst hW3; exact BB.out.setCell (p := ⟨Bw, 0, none⟩) (show Bg ≤ Bw by have := ORD.out; omega) _)
          have SF3 := As2.mk (show W3.heap[Bf]? = W2.heap[Bf]? by subst hW3; exact (Below.heap_setCell W ⟨Bw, 0, none⟩ _ Bf (show Bf ≠ Bw by have := ORD.out; omega)).trans SF.out)
          have DS3 := As2.mk (show ds.Nodup ∧ ∀ D ∈ ds, Bg ≤ D ∧ W3.heap[D]? = some (.deferred (some [])) by
            subst hW3
            refine ⟨DS.out.1, fun D hD => ⟨(DS.out.2 D hD).1, ?_⟩⟩
            have h1 := (S.out.pr D (.inr hD)).2.2
            exact (Below.heap_setCell W ⟨Bw, 0, none⟩ _ D h1).trans (DS.out.2 D hD).2)
          have HL0 := As2.mk (show l0_1.length < 4611686018427387904 by have := HV.out.len; omega)
          have AR := As2.mk (And.intro hm2 (And.intro hm3 (And.intro hn1 (And.intro hkl hcw))))
          clear hm2 hm3 hn1 hwr hlen hc1 hc0_1 hkl
          gi_wp2_with ((try rw [← hW3]); refine ⟨trivial, ?_⟩; gi_at_call 73; refine (callsIn_wide.2 (next_calls (n : Int) x A0_1 c0_1 l0_1 W3 (Kd.C_below R0.out (by rw [HBG.out]; exact BB3.out)) HL0.out HV.out.rising HV.out.ends)).mono ?_; rintro e W4 ⟨Ba, Bg2, Bv, i, rfl, hna, hrd, hb4, hge, hbk⟩; have NA := As2.mk hna.out; have RD := As2.mk hrd; have B4 := As2.mk hb4; have GE := As2.mk hge; have BK := As2.mk hbk.out; clear hna hrd hb4 hge hbk; clear hW3)
          have LT4 := As2.mk (show W3.heap.size ≤ Ba ∧ W3.heap.size ≤ Bg2 ∧ W3.heap.size ≤ Bv ∧ Ba < W4.heap.size ∧ Bg2 < W4.heap.size ∧ Bv < W4.heap.size from ⟨GE.out.1, GE.out.2.1, GE.out.2.2, blk_lt BK.out.1, blk_lt BK.out.2.1, blk_lt BK.out.2.2⟩)
          have S4 := As2.mk (show RS (n : Int) A0_1 c0_1 l0_1 Bg Bs Bw gs Bg (fun k => (k = Bf ∨ k ∈ ds) ∨ k = Ba ∨ k = Bg2 ∨ k = Bv) wsk (wkk.take lw) W4 from S3.out.below B4.out (fun k hk => by
            rcases hk with h | h | h | h
            · exact .inl h
            · subst h; exact .inr ⟨LT4.out.1, LT4.out.2.2.2.1⟩
            · subst h; exact .inr ⟨LT4.out.2.1, LT4.out.2.2.2.2.1⟩
            · subst h; exact .inr ⟨LT4.out.2.2.1, LT4.out.2.2.2.2.2⟩))
          have BB4 := As2.mk (show Below Bg w W4 from BB3.out.trans (B4.out.mono (by rw [← HBG.out]; exact BB3.out.size)))
          have F4 := As2.mk (show W4.heap[Bf]? = some (.cells #[.func (.func 71) #[] #[.pointer (some ⟨Bg, 0, none⟩), .pointer (some ⟨Bs, 0, none⟩), .pointer (some ⟨Bw, 0, none⟩)]] 88) from blk_below (SF3.out.trans Q3.out) B4.out)
          have D4 := As2.mk (show ∀ D ∈ ds, W4.heap[D]? = some (.deferred (some [])) from fun D hD => blk_below (DS3.out.2 D hD).2 B4.out)
          refine wpIn_rangeFunc_ownG (F := Fence.wide) (n := 3) rfl (by omega) (gf := 94) (lb := #[.pointer (some ⟨Ba, 0, none⟩), .pointer (some ⟨Bg2, 0, none⟩), .pointer (some ⟨Bv, 0, none⟩)]) rfl trivial (enters_of Tryd.func94 (by kernel_rfl) rfl)
            (next_stops 2 (by omega) Ba Bg2 Bv A0_1 c0_1 l0_1 x i HV.out.rising NA.out W4 RD.out) nextK_t nextK_b (Below.refl _ _) (fun _ => rfl)
            (fun pre W => RS (n : Int) A0_1 c0_1 l0_1 Bg Bs Bw gs Bg (fun k => (k = Bf ∨ k ∈ ds) ∨ k = Ba ∨ k = Bg2 ∨ k = Bv) (pre.foldl (addF (n : Int)) (wsk, wkk.take lw)).1 (pre.foldl (addF (n : Int)) (wsk, wkk.take lw)).2 W ∧ Below Bg w W ∧ W.heap[Bf]? = some (.cells #[.func (.func 71) #[] #[.pointer (some ⟨Bg, 0, none⟩), .pointer (some ⟨Bs, 0, none⟩), .pointer (some ⟨Bw, 0, none⟩)]] 88) ∧ (∀ D ∈ ds, W.heap[D]? = some (.deferred (some []))) ∧ NextRd Ba Bg2 Bv A0_1 c0_1 l0_1 x i W)
            (fun _ _ _ => False) ?hI (fun _ _ _ _ _ hs _ _ => hs) ⟨S4.out, BB4.out, F4.out, D4.out, RD.out⟩
            (fun y => { tmps := #[Value.agg #[Value.int IntKind.i64 ↑n, Value.slice A0_1 l0_1.length c0_1], Value.slice A1 l1.length c1, Value.pointer (some ⟨Bg, 0, none⟩), undef, Value.slice none 0 0, Value.pointer (some ⟨Bs, 0, none⟩), Value.pointer (some ⟨Bw, 0, none⟩), Value.pointer (some ⟨Bf, 0, none⟩), undef, u9, Value.int .i64 x, Value.int .i64 y, Value.agg #[Value.int IntKind.i64 ↑n, Value.slice A0_1 l0_1.length c0_1], Value.int IntKind.i64 0, Value.bool false, Value.pointer (some ⟨Bg, 0, none⟩), Value.int IntKind.i64 ↑n, Value.int IntKind.i64 (↑n / 64), Value.int IntKind.i64 ↑m, Value.slice (some ⟨gs, 0, none⟩) m m, Value.func (Fn.func 71) #[] #[Value.pointer (some ⟨Bg, 0, none⟩), Value.pointer (some ⟨Bs, 0, none⟩), Value.pointer (some ⟨Bw, 0, none⟩)], Value.slice A1 l1.length c1, Value.int IntKind.i64 ↑l1.length, Value.int IntKind.i64 ↑l1.length, Value.bool false, u25, u26, u27, u28, u29, u30, Value.slice (some ad) (lw + 1) cw, Value.int .i64 (↑lw + 1), Value.bool true, Value.slice (some ad) (lw + 1) cw, Value.slice (some ad) (lw + 1) cw, Value.int .i64 (↑lw + 1), Value.int .i64 ↑lw, Value.pointer (some (ad.add lw)), Value.int .i64 x, Value.slice (some ad) (lw + 1) cw, Value.slice (some ad) (lw + 1) cw, Value.int .i64 (↑lw + 1), Value.int .i64 ↑lw, Value.slice (some ad) lw cw, Value.agg #[Value.int .i64 ↑n, Value.slice A0_1 l0_1.length c0_1], Value.int .i64 x, Value.func (Fn.func 94) #[] #[Value.pointer (some ⟨Ba, 0, none⟩), Value.pointer (some ⟨Bg2, 0, none⟩), Value.pointer (some ⟨Bv, 0, none⟩)], Value.int .i64 y, x49, x50, x51, undef, undef], defers := [] }) ?assign ?body ?done ?stop
          case hI =>
            rintro pre X Y row ⟨h1, h2, h3, h4, h5⟩ hg hr
            have hb4 : Bg ≤ W4.heap.size := by rw [← HBG.out]; exact BB4.out.size
            have lt : ∀ k0, k0 < W4.heap.size → some k0 ≠ row := fun k0 hk0 e => by
              have := (hr k0 e.symm).1
              omega
            refine ⟨h1.own hg (fun r e => (hr r e).2), h2.grown hg (by rw [← HBG.out]; exact h2.size) (fun r e => Nat.le_trans hb4 (hr r e).1), (hg.block Bf (blk_lt h3) (lt Bf (blk_lt F4.out))).trans h3, fun D hD => (hg.block D (blk_lt (h4 D hD)) (lt D (blk_lt (D4.out D hD)))).trans (h4 D hD), next_own (β := Unit) Ba Bg2 Bv A0_1 c0_1 l0_1 x i () X Y row h5 hg (fun r e => (hr r e).2)⟩
          case assign =>
            intro lp y W K hK
            gi_wp2
            exact hK
          case body =>
            rintro lp pre y W5 ⟨h1, h2, h3, h4, h5⟩ hpl
            have hsl : (succL l0_1 x).length ≤ 32768 := by
              unfold succL
              rw [List.length_map]
              exact Nat.le_trans (List.length_filter_le _ _) HV.out.len
            have hL := addFs_len (n : Int) pre (wsk, wkk.take lw)
            have e3 : (pre ++ [y]).foldl (addF (n : Int)) (wsk, wkk.take lw) = addF (n : Int) (pre.foldl (addF (n : Int)) (wsk, wkk.take lw)) y := by rw [List.foldl_append]; rfl
            have ST := As2.mk e3
            clear e3
            generalize pre.foldl (addF (n : Int)) (wsk, wkk.take lw) = sj at h1 hL ST
            obtain ⟨wsj, wkj⟩ := sj
            have hL1 := As2.mk (show wsj.length = m from hL.1.trans LM.out)
            have hL2 := As2.mk (show wkj.length ≤ 200000 by
              have h6 : wkj.length ≤ (wkk.take lw).length + pre.length := hL.2
              have h7 : (wkk.take lw).length ≤ lw := by simp; omega
              omega)
            have f0 : W5.cell? ⟨Bf, 0, none⟩ = some (.func (.func 71) #[] #[.pointer (some ⟨Bg, 0, none⟩), .pointer (some ⟨Bs, 0, none⟩), .pointer (some ⟨Bw, 0, none⟩)]) := (blk_cell h3 0).trans rfl
            have hbw := As2.mk (show Bg ≤ W5.heap.size by rw [← HBG.out]; exact h2.size)
            have HH := As2.mk (And.intro h1 (And.intro h2 (And.intro h3 (And.intro h4 h5))))
            clear hL hsl hpl h1 h2 h3 h4 h5
            gi_wp2_with (refine ⟨trivial, ?_⟩; gi_at_call 71; refine (CallsIn.inRound lp (callsIn_wide.2 (add_calls y (n : Int) A0_1 c0_1 l0_1 Bg Bs Bw gs Bg (fun k => (k = Bf ∨ k ∈ ds) ∨ k = Ba ∨ k = Bg2 ∨ k = Bv) wsj wkj W5 HH.out.1 (Int.natCast_nonneg _) AR.out.2.2.1 (by rw [hL1.out]; have := AR.out.1; omega) (by rw [hL1.out]; have := AR.out.2.1; omega) hbw.out (by have := ORD.out; omega) (by have := ORD.out; omega) (by have := hL2.out; omega)))).mono ?_; rintro e w' ⟨rfl, hs, hp, hb, hko⟩; have S' := As2.mk hs; have P' := As2.mk hp; have B' := As2.mk hb; have KO := As2.mk hko; clear hs hp hb hko)
            have bb5 := HH.out.2.1.trans (B'.out Bg (by have := ORD.out; omega) (by have := ORD.out; omega) (Nat.le_refl _))
            have nr5 : NextRd Ba Bg2 Bv A0_1 c0_1 l0_1 x i W5 → NextRd Ba Bg2 Bv A0_1 c0_1 l0_1 x i w' := fun h => ⟨(World.cell?_of_block (P'.out Ba (.inr (.inl rfl)))).trans h.ca, (World.cell?_of_block (P'.out Bg2 (.inr (.inr (.inl rfl))))).trans h.cg, (World.cell?_of_block (P'.out Bv (.inr (.inr (.inr rfl))))).trans h.cv, Kd.C_below R0.out (by rw [HBG.out]; exact bb5)⟩
            exact ⟨KO.out.from _, nr5, ⟨by rw [ST.out]; exact S'.out, bb5, (P'.out Bf (.inl (.inl rfl))).trans HH.out.2.2.1, fun D hD => (P'.out D (.inl (.inr hD))).trans (HH.out.2.2.2.1 D hD), nr5 HH.out.2.2.2.2⟩⟩
          case done => 
            rintro D ys W5 hD rfl hIy hKD
            obtain ⟨h1, h2, h3, h4, h5⟩ := hIy
            have hnd : D ∉ ds := fun hm => by have := blk_lt (D4.out D hm); omega
            have hb4 : Bg ≤ W4.heap.size := by rw [← HBG.out]; exact BB4.out.size
            refine ⟨k, Nat.lt_succ_self k, D :: ds, _, _, _, _, _, _, _, _, _, _, _, _, _, _, _, _, _, _, _, _, _, _, _, _, rfl, ⟨RF3.out⟩, ⟨h1.prot (fun k0 hk0 => ?_)⟩, ⟨h2⟩, ⟨h3.trans Q3.out.symm⟩, ⟨List.nodup_cons.2 ⟨hnd, DS3.out.1⟩, fun D' hD' => ?_⟩, ⟨(addFs_len (n : Int) (succL l0_1 x) (wsk, wkk.take lw)).1.trans LM.out⟩⟩
            · rcases hk0 with h | h
              · exact .inl (.inl (.inl h))
              · rcases List.mem_cons.1 h with rfl | h
                · exact .inr ⟨_, hKD, rfl⟩
                · exact .inl (.inl (.inr h))
            · rcases List.mem_cons.1 hD' with rfl | h
              · exact ⟨Nat.le_trans hb4 hD, hKD⟩
              · exact ⟨(DS3.out.2 D' h).1, h4 D' h⟩
          case stop =>
            rintro D c pre W5 _ _ h _
            exact h.elim
theorem graph_Reach.calls (a0_0 : Int) (A0_1 : Option Addr) (c0_1 : Nat) (l0_1 : List S53) (A1 : Option Addr) (c1 : Nat) (l1 : List Int) (r : List Int) (w : World) (hr0_1 : Kd.C k53 w A0_1 l0_1.length l0_1) (hc0_1 : l0_1.length ≤ c0_1) (hr1 : Kd.C (Kd.int .i64) w A1 l1.length l1) (hc1 : l1.length ≤ c1) (hG_ : TabW w) (h : graph_Reach.f a0_0 l0_1 l1 = some r) :
    Calls Tryd.prog 35 #[.agg #[.int .i64 a0_0, .slice A0_1 l0_1.length c0_1], .slice A1 l1.length c1] w fun e w' => ∃ v0_ : Value, e = .returned v0_ ∧ Kd.R (Kd.int .i64) 3 w' w.heap.size (fun _ => True) v0_ r ∧ Below w.heap.size w w' := by
  unfold graph_Reach.f at h
  by_cases hc : chk a0_0 l0_1 = 0
  · rw [if_pos hc] at h
    by_cases hl : l1.length ≤ 60000
    · rw [if_pos hl] at h
      obtain ⟨ws, hws, rfl⟩ := Option.map_eq_some_iff.1 h
      exact callsIn_wide.1 (graph_Reach.yes a0_0 A0_1 c0_1 l0_1 A1 c1 l1 ws w hr0_1 hc0_1 hr1 hc1 hG_ ((chk_zero _ _).1 hc) hl hws)
    · rw [if_neg hl] at h; cases h
  · rw [if_neg hc] at h
    obtain rfl := Option.some.inj h
    exact graph_Reach.no a0_0 A0_1 c0_1 l0_1 A1 c1 l1 w hr0_1 hc0_1 hc
end Go.Proofs.YtfgbkklhjocmjaaDoor.Xq
namespace Go.Proofs.YtfgbkklhjocmjaaDoor.Xq
open Go.RowKit Go.Lib Go.Sort Go.Proofs.YtfgbkklhjocmjaaDoorW.PrintWords Go.Proofs.YtfgbkklhjocmjaaDoorW.PrintLast Go.Proofs.YtfgbkklhjocmjaaDoor.Gv
def swapE (x : S53) : S53 := ⟨x.f1, x.f0⟩
def graph_Reverse.f (a0_0 : Int) (l0_1 : List S53) : Option (Int × List S53) := if chk a0_0 l0_1 = 0 then some (a0_0, sortE (l0_1.map swapE)) else some (0, [])
theorem swap_take {l : List S53} {j : Nat} (hj : j < l.length) {y : S53} (hy : rd_T53 l (j : Int) = y) : (l.take (j + 1)).map swapE = (l.take j).map swapE ++ [(⟨y.f1, y.f0⟩ : S53)] := by
  rw [List.take_succ_eq_append_getElem hj, List.map_append, ← hy, rd_at' hj]
  rfl
set_option maxRecDepth 100000 in
set_option maxHeartbeats 2000000 in
theorem graph_Reverse.calls (a0_0 : Int) (A0_1 : Option Addr) (c0_1 : Nat) (l0_1 : List S53) (r1 : Int) (r2 : List S53) (w : World) (hr0_1 : Kd.C k53 w A0_1 l0_1.length l0_1) (hc0_1 : l0_1.length ≤ c0_1) (h : graph_Reverse.f a0_0 l0_1 = some (r1, r2)) :
    Calls Tryd.prog 47 #[.agg #[.int .i64 a0_0, .slice A0_1 l0_1.length c0_1]] w fun e w' => ∃ v1_ : Value, e = .returned (.agg #[.int .i64 r1, v1_]) ∧ Kd.R k53 53 w' w.heap.size (fun _ => True) v1_ r2 ∧ Below w.heap.size w w' := by
  have H := As2.mk h
  have R0 := As2.mk hr0_1
  have hcap := hr0_1.2.1
  have HF := As2.mk (Check_f a0_0 l0_1 _ (Nat.le_refl _))
  clear h hr0_1
  unfold graph_Reverse.f at H
  generalize hch : chk a0_0 l0_1 = ch at H HF
  have HCH := As2.mk hch
  clear hch
  obtain ⟨W, hW⟩ : ∃ W, W = (w.alloc (.cells #[.int .i64 a0_0, .slice A0_1 l0_1.length c0_1] 24)).alloc (.cells #[.int .i64 0, .slice none 0 0] 24) := ⟨_, rfl⟩
  have BW := As2.mk (show Below w.heap.size w W by subst hW; exact ((Below.refl _ _).alloc (Nat.le_refl _) _).alloc (by simp) _)
  have K1 := As2.mk (show W.heap[w.heap.size]? = some (.cells #[.int .i64 a0_0, .slice A0_1 l0_1.length c0_1] 24) by subst hW; exact blk_alloc (heap_alloc_new w _) _)
  have K2 := As2.mk (show W.heap[w.heap.size + 1]? = some (.cells #[.int .i64 0, .slice none 0 0] 24) by
    subst hW
    have := heap_alloc_new (w.alloc (.cells #[.int .i64 a0_0, .slice A0_1 l0_1.length c0_1] 24)) (.cells #[.int .i64 0, .slice none 0 0] 24)
    rwa [World.size_alloc] at this)
  have GB := As2.mk (show w.heap.size ≤ w.heap.size + 1 by omega)
  by_cases hz : ch = 0
  · have H1 := As2.mk (show a0_0 = r1 ∧ sortE (l0_1.map swapE) = r2 by have HH := H.out; rw [if_pos hz] at HH; simpa using HH)
    have V := As2.mk ((chk_zero _ _).1 (HCH.out.trans hz))
    clear H
    have hlen := V.out.len
    have hmk : ∀ W : World, (Instr.makeSlice 22 (.int .i64 0) (.int .i64 (l0_1.length : Int))).run Tryd.prog W = .ok (.slice (some ⟨W.heap.size, 0, none⟩) 0 l0_1.length) (W.alloc (.cells (madeCells #[.int .i64 0, .int .i64 0] (l0_1.length * 2)) 53)) := by
      intro W
      obtain ⟨i0, hi, hz⟩ := Option.map_eq_some_iff.1 gvInfo53
      simp only [Prod.mk.injEq] at hz
      obtain ⟨hz0, hz1, hz2⟩ := hz
      have z := run_make (P := Tryd.prog) W 22 53 i0 _ Tryd.underlying22 hi hz0 .i64 .i64 0 (l0_1.length : Int) (by omega) (by omega) (by rw [hz2]; omega) (by omega)
      rw [hz1, Int.toNat_natCast] at z
      exact z
    have hE : ∀ W : World, Kd.R k53 53 (W.alloc (.cells (madeCells #[.int .i64 0, .int .i64 0] (l0_1.length * 2)) 53)) W.heap.size (fun _ => True) (.slice (some ⟨W.heap.size, 0, none⟩) 0 l0_1.length) [] := fun W => R53_iff.2 ⟨rfl, .inr ⟨W.heap.size, l0_1.length, _, rfl, Nat.le_refl _, heap_alloc_new W _, Nat.zero_le _, by unfold maxLen; omega, size_madeCells _ _, rfl⟩⟩
    have HE := As2.mk hE
    clear hE
    go_enter Tryd.func47, Tryd.ntmps47
    go_wp2_with ((try rw [← hW]); go_at_call 34; refine (graph_Check.calls _ a0_0 A0_1 c0_1 l0_1 ch _ ?hr hc0_1 HF.out).mono ?_; (case hr => exact Kd.C_below R0.out BW.out); rintro e w1 ⟨rfl, hb⟩; have B1 := As2.mk hb; clear hb; clear hW; have kk1 := blk_below K1.out B1.out; have kk2 := blk_below K2.out B1.out; have g0 : w1.cell? ⟨w.heap.size, 0, none⟩ = some (.int .i64 a0_0) := (blk_cell kk1 0).trans rfl; have g1 : w1.cell? ⟨w.heap.size, 1, none⟩ = some (.slice A0_1 l0_1.length c0_1) := (blk_cell kk1 1).trans rfl; have g2 : w1.cell? ⟨w.heap.size + 1, 0, none⟩ = some (.int .i64 0) := (blk_cell kk2 0).trans rfl; have g3 : w1.cell? ⟨w.heap.size + 1, 1, none⟩ = some (.slice none 0 0) := (blk_cell kk2 1).trans rfl; have g4 := blk_frozen kk2 0; have g5 := blk_frozen kk2 1; have hs1 := blk_lt kk1; have hs2 := blk_lt kk2; have KK2 := As2.mk kk2; clear kk1 kk2)
    go_loopw [3, 17] (fun v i wr => ∃ j : Nat, i = .int .i64 j ∧ j ≤ l0_1.length ∧ As2 (Kd.R k53 53 wr w1.heap.size (fun _ => True) v ((l0_1.take j).map swapE)) ∧ As2 (Below w1.heap.size w1 wr)) (fun _ i _ => l0_1.length - (intOf i).toNat)
    case atStart => exact ⟨0, rfl, Nat.zero_le _, ⟨HE.out w1⟩, ⟨(Below.refl _ _).alloc (Nat.le_refl _) _⟩⟩
    case round =>
      clear g0 g1 g2 g3 g4 g5 hmk
      obtain ⟨j, rfl, hj, E, EB⟩ := hrel
      by_cases hlt : j < l0_1.length
      · obtain ⟨ad, rfl, d0, d1⟩ := at_T53 (Kd.C_below (Kd.C_below (Kd.C_below R0.out BW.out) B1.out) EB.out) (j : Int) (by omega) (by omega)
        rw [Int.toNat_natCast] at d0 d1
        generalize hy : rd_T53 l0_1 (j : Int) = y at d0 d1
        have ST := As2.mk (swap_take hlt hy)
        clear hy
        obtain ⟨y0, y1⟩ := y
        obtain ⟨xs, hxs⟩ : ∃ xs, xs = (l0_1.take j).map swapE := ⟨_, rfl⟩
        have hxl : xs.length ≤ l0_1.length := by rw [hxs]; simp; omega
        rw [← hxs] at E ST
        clear hxs
        go_wp2_with ((with_reducible refine gate_builtin (b := .append) (xs := #[.tmp 21, .tmp 27]) rfl ?_); at_builtin; go_must (refine Kd.R_append k53 (w0 := w1) w1.heap.size rfl (.tmp 21) (.tmp 27) 22 53 (.agg #[(.int .i64 0), (.int .i64 0)]) 16 rfl Tryd.underlying22 gvInfo53 rfl (by decide) (by omega) u3 xs (⟨y1, y0⟩ : S53) [.int .i64 y1, .int .i64 y0] (fun _ => True) (fun _ => False) rfl ?aX ?aP (fun _ hk => hk.elim) (fun _ _ => trivial) ?aO ?aB ?aS ?aL ?_); (case aX => go_must (first | exact rfl | exact congrArg (fun z => Value.slice (some ⟨z, 0, none⟩) 1 1) (by simp))); (case aP => exact k53_mkM _ _ _ (⟨y1, y0⟩ : S53)); (case aB => go_must (exact (by repeat (first | (with_reducible first | exact EB.out | apply below_alloc | apply pw_below_drewN | apply below_drew1) | exact EB.out)))); (case aO => go_must (exact (by (with_reducible repeat (first | apply Kd.R_alloc | apply Kd.R_drewN | apply Kd.R_drew)); exact E.out))); (case aS => go_must (exact below_size (by repeat (first | (with_reducible first | exact EB.out | apply below_alloc | apply pw_below_drewN | apply below_drew1) | exact EB.out)))); (case aL => omega); intro v1 w3 ho hb hg hat; have F := As2.mk ho; have FB := As2.mk hb; clear ho hb hg hat)
        exact ⟨⟨j + 1, by go_num, by omega, ⟨by rw [ST.out]; exact F.out⟩, FB⟩, by simp [intOf]; omega⟩
      · obtain rfl : j = l0_1.length := by omega
        rw [List.take_length] at E
        go_wp2_with fail
        refine (sortE_calls u3 _ _ _ E.out (by simp; omega)).mono ?_
        rintro e w4 ⟨rfl, g7, gr⟩
        have B4 := As2.mk (EB.out.grown gr EB.out.size (fun k hk => Kd.R_base E.out k hk))
        obtain ⟨A7, c7, hv7, hc7, hC7⟩ := Kd.R_reads g7
        have G7 := As2.mk g7
        clear g7 gr hC7
        subst hv7
        have bk1 := blk_below (blk_below K1.out B1.out) B4.out
        have bk2 := blk_below (blk_below K2.out B1.out) B4.out
        have g0 : w4.cell? ⟨w.heap.size, 0, none⟩ = some (.int .i64 a0_0) := (blk_cell bk1 0).trans rfl
        have g2 : w4.cell? ⟨w.heap.size + 1, 0, none⟩ = some (.int .i64 0) := (blk_cell bk2 0).trans rfl
        have g3 : w4.cell? ⟨w.heap.size + 1, 1, none⟩ = some (.slice none 0 0) := (blk_cell bk2 1).trans rfl
        have g4 := blk_frozen bk2 0
        have g5 := blk_frozen bk2 1
        have KK4 := As2.mk bk2
        have LT := As2.mk (blk_lt K2.out)
        clear bk1 bk2
        obtain ⟨rfl, hr2⟩ := H1.out
        generalize sortE (l0_1.map swapE) = sl at G7 hc7 hr2
        subst hr2
        clear H1
        go_wp2_with fail
        refine bodyPost_ret (results_cell_row rfl _ _ (w.heap.size + 1) 24 _ (0, 0) _ rfl (blk_put (blk_put KK4.out 0 _ rfl) 1 _ rfl) Tryd.underlying24 rfl (by kernel_rfl)) rfl ?_
        have hrow : Kd.R k53 53 w4 w.heap.size (fun _ => True) (.slice A7 sl.length c7) sl := Kd.R_lower G7.out (Nat.le_trans BW.out.size B1.out.size)
        have hrow2 : Kd.R k53 53 w4 w.heap.size (fun k => k ≠ w.heap.size + 1) (.slice A7 sl.length c7) sl := Kd.R_reok rfl hrow (fun k hk => by have := Kd.R_base G7.out k hk; have := LT.out; have := B1.out.size; omega)
        exact ⟨_, rfl, Kd.R_mono (Kd.R_far (p := ⟨w.heap.size + 1, 1, none⟩) (Kd.R_far (p := ⟨w.heap.size + 1, 0, none⟩) hrow2 (fun k hk => hk) _) (fun k hk => hk) _) (fun _ _ => trivial), below_set (below_set (below_step (below_step BW.out B1.out) B4.out) GB.out) GB.out⟩
  · have H1 := As2.mk (show 0 = r1 ∧ [] = r2 by have HH := H.out; rw [if_neg hz] at HH; simpa using HH)
    clear H HCH
    go_enter Tryd.func47, Tryd.ntmps47
    go_wp2_with ((try rw [← hW]); go_at_call 34; refine (graph_Check.calls _ a0_0 A0_1 c0_1 l0_1 ch _ ?hr hc0_1 HF.out).mono ?_; (case hr => exact Kd.C_below R0.out BW.out); rintro e w1 ⟨rfl, hb⟩; have B1 := As2.mk hb; clear hb; clear hW; have kk1 := blk_below K1.out B1.out; have kk2 := blk_below K2.out B1.out; have g0 : w1.cell? ⟨w.heap.size, 0, none⟩ = some (.int .i64 a0_0) := (blk_cell kk1 0).trans rfl; have g1 : w1.cell? ⟨w.heap.size, 1, none⟩ = some (.slice A0_1 l0_1.length c0_1) := (blk_cell kk1 1).trans rfl; have g2 : w1.cell? ⟨w.heap.size + 1, 0, none⟩ = some (.int .i64 0) := (blk_cell kk2 0).trans rfl; have g3 : w1.cell? ⟨w.heap.size + 1, 1, none⟩ = some (.slice none 0 0) := (blk_cell kk2 1).trans rfl; have g4 := blk_frozen kk2 0; have g5 := blk_frozen kk2 1; have hs1 := blk_lt kk1; have hs2 := blk_lt kk2; have KK2 := As2.mk kk2; clear kk1 kk2)
    obtain ⟨rfl, rfl⟩ := H1.out
    refine bodyPost_ret (results_cell_row rfl _ _ (w.heap.size + 1) 24 _ (0, 0) _ rfl (blk_put (blk_put KK2.out 0 _ rfl) 1 _ rfl) Tryd.underlying24 rfl (by kernel_rfl)) rfl ?_
    exact ⟨_, rfl, Kd.R_nil _ _ _ _ _, below_set (below_set (below_step BW.out B1.out) GB.out) GB.out⟩
end Go.Proofs.YtfgbkklhjocmjaaDoor.Xq
namespace Go.Proofs.YtfgbkklhjocmjaaDoor.Xq
open Go.RowKit Go.Proofs.YtfgbkklhjocmjaaDoorW.PrintWords Go.Proofs.YtfgbkklhjocmjaaDoorW.PrintLast Go.Proofs.YtfgbkklhjocmjaaDoorW.PrintMore
attribute [local go_sem] max2_int min2_int max_two min_two max_three min_three max_four min_four
def bits_Mul64.f (a0 : Int) (a1 : Int) : Option (Int × Int) := some (IntKind.u64.wrap ((IntKind.u64.wrap ((IntKind.u64.wrap ((a0 / 4294967296) * (a1 / 4294967296))) + ((IntKind.u64.wrap ((IntKind.u64.wrap ((a0 / 4294967296) * (Go.bits .and .u64 a1 4294967295))) + ((IntKind.u64.wrap ((Go.bits .and .u64 a0 4294967295) * (Go.bits .and .u64 a1 4294967295))) / 4294967296))) / 4294967296))) + ((IntKind.u64.wrap ((Go.bits .and .u64 (IntKind.u64.wrap ((IntKind.u64.wrap ((a0 / 4294967296) * (Go.bits .and .u64 a1 4294967295))) + ((IntKind.u64.wrap ((Go.bits .and .u64 a0 4294967295) * (Go.bits .and .u64 a1 4294967295))) / 4294967296))) 4294967295) + (IntKind.u64.wrap ((Go.bits .and .u64 a0 4294967295) * (a1 / 4294967296))))) / 4294967296)),IntKind.u64.wrap (a0 * a1))
set_option maxHeartbeats 8000000 in
set_option maxRecDepth 100000 in
theorem bits_Mul64.calls (a0 : Int) (a1 : Int) (r1 : Int) (r2 : Int) (w : World) (h : bits_Mul64.f a0 a1 = some (r1,r2)) :
  Calls Tryd.prog 121 #[.int .u64 a0,.int .u64 a1] w fun e w' => e = .returned (.tuple #[.int .u64 r1,.int .u64 r2]) ∧ Drawn0 w w' := by
 have H : (some (IntKind.u64.wrap ((IntKind.u64.wrap ((IntKind.u64.wrap ((a0 / 4294967296) * (a1 / 4294967296))) + ((IntKind.u64.wrap ((IntKind.u64.wrap ((a0 / 4294967296) * (Go.bits .and .u64 a1 4294967295))) + ((IntKind.u64.wrap ((Go.bits .and .u64 a0 4294967295) * (Go.bits .and .u64 a1 4294967295))) / 4294967296))) / 4294967296))) + ((IntKind.u64.wrap ((Go.bits .and .u64 (IntKind.u64.wrap ((IntKind.u64.wrap ((a0 / 4294967296) * (Go.bits .and .u64 a1 4294967295))) + ((IntKind.u64.wrap ((Go.bits .and .u64 a0 4294967295) * (Go.bits .and .u64 a1 4294967295))) / 4294967296))) 4294967295) + (IntKind.u64.wrap ((Go.bits .and .u64 a0 4294967295) * (a1 / 4294967296))))) / 4294967296)),IntKind.u64.wrap (a0 * a1))) = some (r1,r2) := h
 clear h
 simp only [Option.some.injEq,Prod.mk.injEq] at H
 obtain ⟨rfl,rfl⟩ := H
 go_enter Tryd.func121,Tryd.ntmps121
 go_wp2
 go_ret2
 exact ⟨by first | rfl | (simp; done) | (simp [*]; done),by repeat (first | exact Drawn0.refl _ | apply Drawn0.step)⟩
def bits_Mul.f (a0 : Int) (a1 : Int) : Option (Int × Int) := (bits_Mul64.f a0 a1).bind fun bt101 => (some (bt101.1,bt101.2))
set_option maxHeartbeats 8000000 in
set_option maxRecDepth 100000 in
theorem bits_Mul.calls (a0 : Int) (a1 : Int) (r1 : Int) (r2 : Int) (w : World) (h : bits_Mul.f a0 a1 = some (r1,r2)) :
  Calls Tryd.prog 97 #[.int .u64 a0,.int .u64 a1] w fun e w' => e = .returned (.tuple #[.int .u64 r1,.int .u64 r2]) ∧ Drawn0 w w' := by
 have H : ((bits_Mul64.f a0 a1).bind fun bt101 => (some (bt101.1,bt101.2))) = some (r1,r2) := h
 clear h
 replace H := Option.bind_eq_some_iff.mp H
 obtain ⟨⟨t101,t102⟩,A30,H⟩ := H
 replace H : (some (t101,t102)) = some (r1,r2) := H
 have A3 := aM_ A30
 clear A30
 simp only [Option.some.injEq,Prod.mk.injEq] at H
 obtain ⟨rfl,rfl⟩ := H
 go_enter Tryd.func97,Tryd.ntmps97
 go_wp2_with (first | ((with_reducible refine gate_callee (f := 121) rfl ?_); refine goesL_ (some 25) rfl rfl Tryd.func121 (by kernel_rfl) rfl #[.int .u64 a0,.int .u64 a1] rfl (by (try simp only [List.map_toArray,List.map_cons,List.map_nil]); first | done | rfl | (simp only [List.length_drop,List.length_take]; rfl)) ?_; (with_reducible refine (bits_Mul64.calls a0 a1 t101 t102 _ A3.out).mono ?_); rintro e w' ⟨rfl,⟨nd,rfl⟩⟩; refine ⟨_,rfl,?_⟩))
 go_ret2
 exact ⟨by first | rfl | (simp; done) | (simp [*]; done),by repeat (first | exact Drawn0.refl _ | apply Drawn0.step)⟩
end Go.Proofs.YtfgbkklhjocmjaaDoor.Xq
namespace Go.Proofs.YtfgbkklhjocmjaaDoor.Xq
open Go.RowKit Go.Proofs.YtfgbkklhjocmjaaDoorW.PrintWords Go.Proofs.YtfgbkklhjocmjaaDoorW.PrintLast Go.Proofs.YtfgbkklhjocmjaaDoor.Gv
theorem Mul_f (n : Nat) (hn : n ≤ 8192) : bits_Mul.f 1 (n : Int) = some (0, (n : Int)) := by
  have h1 : (1 : Int) / 4294967296 = 0 := by omega
  have h2 : (n : Int) / 4294967296 = 0 := by omega
  have h3 : Go.bits .and .u64 (n : Int) 4294967295 = (n : Int) := by
    have := bits_and_u64_nat n 4294967295 (by omega) (by omega)
    have e : n &&& 4294967295 = n := by
      have h := Nat.and_two_pow_sub_one_eq_mod n 32
      rw [show 2 ^ 32 - 1 = 4294967295 from rfl] at h
      rw [h]; omega
    rw [e] at this
    exact this
  have h4 : Go.bits .and .u64 (1 : Int) 4294967295 = 1 := by
    have := bits_and_u64_nat 1 4294967295 (by omega) (by omega)
    exact this
  have h5 : Go.bits .and .u64 (0 : Int) 4294967295 = 0 := by
    have := bits_and_u64_nat 0 4294967295 (by omega) (by omega)
    exact this
  have w0 : IntKind.u64.wrap 0 = 0 := by rw [IntKind.wrap_u64]; omega
  have wn : IntKind.u64.wrap (n : Int) = (n : Int) := by rw [IntKind.wrap_u64]; omega
  unfold bits_Mul.f bits_Mul64.f
  simp only [Option.bind_some, h1, h2, h3, h4, h5, w0, wn, Int.zero_mul, Int.mul_zero, Int.one_mul, Int.zero_add, Int.add_zero, Int.zero_ediv]
def repC (n k : Nat) : Array Value := (List.replicate k (Value.int .i64 (-1)) ++ List.replicate (n - k) (Value.int .i64 0)).toArray
theorem repC_size {n k : Nat} (h : k ≤ n) : (repC n k).size = n := by simp [repC]; omega
theorem run_copy_rep (P : Program) (W : World) (ty : TypeId) (g n k o c : Nat) (so : Addr) (hu : P.underlying 31 = some (.slice 3)) (hs : (P.info? 3).map (·.size) = some 1) (hg : W.heap[g]? = some (.cells (repC n o) 3 (0, 0))) (ho : o ≤ n) (hk : 1 ≤ k) (hkn : o < n)
    (hsrc : ∀ j, j < min (n - o) k → W.cell? (so.add j) = some (.int .i64 (-1))) :
    (Builtin.copy_ #[31, 31] ty #[.slice (some ⟨g, o, none⟩) (n - o) (n - o), .slice (some so) k c]).run P W = .ok (.int .i64 ((min (n - o) k : Nat) : Int)) (W.setRow g (repC n (o + min (n - o) k))) := by
  cases hq : P.info? 3 with
  | none => simp [hq] at hs
  | some i =>
    have hi : i.size = 1 := by simpa [hq] using hs
    obtain ⟨m, hm⟩ : ∃ m, m = min (n - o) k := ⟨_, rfl⟩
    rw [← hm] at hsrc ⊢
    have hm1 : m ≤ n - o := by omega
    have hl := run_loadCells_list (P := P) W so (List.replicate m (Value.int .i64 (-1))) (fun j v hj => by
      have hj' := List.getElem?_eq_some_iff.1 hj
      obtain ⟨h1, h2⟩ := hj'
      rw [List.getElem_replicate] at h2
      subst h2
      exact hsrc j (by simpa using h1))
    rw [List.length_replicate] at hl
    have hst := run_storeCells_at P g o 3 (List.replicate m (Value.int .i64 (-1))) 0 (repC n o) W hg (by rw [repC_size ho]; simp; omega) (by
      intro v hv
      rw [(List.mem_replicate.1 hv).2]; rfl)
    have e : ((repC n o).toList.take (o + 0) ++ List.replicate m (Value.int .i64 (-1)) ++ (repC n o).toList.drop (o + 0 + (List.replicate m (Value.int .i64 (-1))).length)).toArray = repC n (o + m) := by
      unfold repC
      simp only [List.length_replicate, Nat.add_zero, List.toList_toArray]
      rw [List.take_append_of_le_length (by simp), List.take_of_length_le (by simp), List.drop_append, List.length_replicate, List.drop_of_length_le (by simp), List.nil_append, List.drop_replicate, List.replicate_append_replicate, show o + m - o = m by omega, show n - o - m = n - (o + m) by omega]
    rw [e] at hst
    have hm3 : Nat.min k (n - o) = m := by rw [hm]; exact Nat.min_comm _ _
    simp [Builtin.copy_, run_underlying hu, Builtin.lenOf, Builtin.firstCells, sizeOf, typeInfo, hq, hi, hm3, hl, hst, goInt]
theorem below_setRow {N : Nat} {w W : World} (h : Below N w W) {g : Nat} (hg : N ≤ g) (b : Array Value) : Below N w (W.drew.setRow g b) := by
  refine h.trans ⟨rfl, rfl, rfl, ?_, fun k hk => ?_⟩
  · show _ ≤ (World.setRow W.drew g b).heap.size
    simp [World.setRow]
  · show (World.setRow W.drew g b).heap[k]? = _
    have : g ≠ k := by omega
    simp [World.setRow, Array.getElem?_modify, this]
    rfl
theorem val_ {P : Program} {Q : Exit → Act → World → Prop} {ops : Array Oper} {oi : Oper} {N : Option Tmp} {a : Act} {w w' : World} {K : Act → World → Prop} {v : Value} (hw : Region.wanted oi (yielded ops a.tmps) = true) (hN : oi.dst = N) (hrun : (execOp a.eval oi).run P w = .ok (.value v) w') (h : K (a.put N v) w') : if Region.wanted oi (yielded ops a.tmps) = true then Oper.wp P oi a w K Q else K (a.put N undef) w := by
  rw [if_pos hw]
  subst hN
  unfold Oper.wp
  rw [hrun]
  exact h
set_option maxRecDepth 100000 in
set_option maxHeartbeats 1000000 in
theorem repeat_calls (n : Nat) (h1 : 1 ≤ n) (hn : n ≤ 8192) (gx c : Nat) (w : World) (hx : w.cell? ⟨gx, 0, none⟩ = some (.int .i64 (-1))) :
    Calls Tryd.prog 81 #[.slice (some ⟨gx, 0, none⟩) 1 c, .int .i64 n] w fun e w' => e = .returned (.slice (some ⟨w.heap.size, 0, none⟩) n n) ∧ w'.heap[w.heap.size]? = some (.cells (((List.replicate n (-1)).map (Value.int .i64)).toArray) 3 (0, 0)) ∧ Below w.heap.size w w' := by
  have MF := As2.mk (Mul_f n hn)
  have HX := As2.mk hx
  have hmk : ∀ W : World, (Instr.makeSlice 31 (.int .i64 (n : Int)) (.int .i64 (n : Int))).run Tryd.prog W = .ok (.slice (some ⟨W.heap.size, 0, none⟩) n n) (W.alloc (.cells (repC n 0) 3)) := by
    intro W
    obtain ⟨i0, hi, hz⟩ := Option.map_eq_some_iff.1 infoI3
    simp only [Prod.mk.injEq] at hz
    obtain ⟨hz0, hz1, hz2⟩ := hz
    have z := run_make (P := Tryd.prog) W 31 3 i0 _ Tryd.underlying31 hi hz0 .i64 .i64 (n : Int) (n : Int) (by omega) (by omega) (by rw [hz2]; omega) (by omega)
    rw [hz1, Int.toNat_natCast, Nat.mul_one] at z
    rw [z]
    congr 3
    apply Array.ext
    · simp [madeCells, repC]
    · intro i h1 h2
      have e : (Value.int .i64 0).cells = #[Value.int .i64 0] := rfl
      simp [madeCells, repC, Nat.mod_one, e]
  have wn : IntKind.u64.wrap (n : Int) = (n : Int) := by rw [IntKind.wrap_u64]; omega
  have hinf : (Tryd.prog.info? 3).map (·.size) = some 1 := by kernel_rfl
  have HINF := As2.mk hinf
  have hcp1 : ∀ nd ty, (Builtin.copy_ #[31, 31] ty #[.slice (some ⟨w.heap.size, 0, none⟩) n n, .slice (some ⟨gx, 0, none⟩) 1 c]).run Tryd.prog ((w.drewN nd).alloc (.cells (repC n 0) 3)) = .ok (.int .i64 1) ((w.drewN nd).alloc (.cells (repC n 1) 3)) := by
    intro nd ty
    have z := run_copy_rep Tryd.prog ((w.drewN nd).alloc (.cells (repC n 0) 3)) ty w.heap.size n 1 0 c ⟨gx, 0, none⟩ Tryd.underlying31 hinf (heap_alloc_new (w.drewN nd) _) (Nat.zero_le _) (Nat.le_refl _) h1 (fun j hj => by
      obtain rfl : j = 0 := by omega
      have e : ((⟨gx, 0, none⟩ : Addr).add 0) = ⟨gx, 0, none⟩ := rfl
      rw [e]
      exact (World.cell?_of_block (Below.heap_alloc (w.drewN nd) _ gx (World.block_lt_of_cell? w _ hx))).trans hx)
    rw [show min (n - 0) 1 = 1 by omega, show n - 0 = n from rfl] at z
    rw [z]
    exact congrArg (Result.ok _) (alloc_setRow (w.drewN nd) _ _ 3)
  clear hinf
  go_enter Tryd.func81, Tryd.ntmps81
  go_wp2_with (go_at_call 97; refine (bits_Mul.calls _ _ 0 (n : Int) _ MF.out).mono ?_; rintro e w1 ⟨rfl, ⟨nd, rfl⟩⟩)
  go_loopw [8] (fun i wr => ∃ k : Nat, i = .int .i64 k ∧ 1 ≤ k ∧ k ≤ n ∧ As2 (wr.heap[w.heap.size]? = some (.cells (repC n k) 3 (0, 0))) ∧ As2 (Below w.heap.size w wr)) (fun i _ => n - (intOf i).toNat)
  case atStart => exact ⟨1, rfl, Nat.le_refl _, h1, ⟨heap_alloc_new (w.drewN nd) _⟩, ⟨below_alloc (pw_below_drewN (Below.refl _ _) nd) _⟩⟩
  case round =>
    clear hcp1 hmk wn
    obtain ⟨k, rfl, hk1, hkn, G, EB⟩ := hrel
    by_cases hlt : k < n
    · have HCP := As2.mk (show ∀ ty, (Builtin.copy_ #[31, 31] ty #[.slice (some ⟨w.heap.size, k, none⟩) (n - k) (n - k), .slice (some ⟨w.heap.size, 0, none⟩) k n]).run Tryd.prog wr.drew = .ok (.int .i64 ((min (n - k) k : Nat) : Int)) (wr.drew.setRow w.heap.size (repC n (k + min (n - k) k))) from fun ty =>
        run_copy_rep Tryd.prog wr.drew ty w.heap.size n k k n ⟨w.heap.size, 0, none⟩ Tryd.underlying31 HINF.out G.out hkn hk1 hlt (fun j hj => by
          have e : ((⟨w.heap.size, 0, none⟩ : Addr).add j) = ⟨w.heap.size, j, none⟩ := by
            unfold Addr.add
            split
            · rename_i h; subst h; rfl
            · simp
          have hjk : j < k := by omega
          rw [e, blk_cell (w := wr.drew) G.out]
          unfold repC
          rw [List.getElem?_toArray, List.getElem?_append_left (by simpa using hjk)]
          simp [hjk]))
      have hki : (k : Int) ≤ (n : Int) := by omega
      have hk0 : (0 : Int) ≤ (k : Int) := by omega
      have hkn' : ¬ (n = k) := by omega
      go_wp2_with fail
      refine start_ (n := 10) (S := fun w' => True) (ds := []) #[false, false, false, false, false, false, false, false, false, false] (by kernel_rfl) rfl rfl trivial (fun hHeld => ?_)
      refine pure_ (i := 0) (N := (some 38)) (v := ?_) (a' := ?_) #[true, false, false, false, false, false, false, false, false, false] rfl rfl (by kernel_rfl) (fun _ _ _ h => h) (Or.inl ⟨by rfl, ?_⟩) ?_ ?_
      rotate_left
      · intro w'
        go_simp
        with_reducible rfl
      rotate_left
      · simp only [Act.put, List.setIfInBounds_toArray, List.set_cons_zero, List.set_cons_succ, i64_w, i32_w]
        rfl
      refine pure_ (i := 1) (N := (some 39)) (v := ?_) (a' := ?_) #[true, true, false, false, false, false, false, false, false, false] rfl rfl (by kernel_rfl) (fun _ _ _ h => h) (Or.inl ⟨by rfl, ?_⟩) ?_ ?_
      rotate_left
      · intro w'
        go_simp
        with_reducible rfl
      rotate_left
      · simp only [Act.put, List.setIfInBounds_toArray, List.set_cons_zero, List.set_cons_succ, i64_w, i32_w]
        rfl
      refine pure_ (i := 2) (N := (some 40)) (v := ?_) (a' := ?_) #[true, true, true, false, false, false, false, false, false, false] rfl rfl (by kernel_rfl) (fun _ _ _ h => h) (Or.inl ⟨by rfl, ?_⟩) ?_ ?_
      rotate_left
      · intro w'
        go_simp
        with_reducible rfl
      rotate_left
      · simp only [Act.put, List.setIfInBounds_toArray, List.set_cons_zero, List.set_cons_succ, i64_w, i32_w]
        rfl
      refine pure_ (i := 3) (N := (some 41)) (v := ?_) (a' := ?_) #[true, true, true, true, false, false, false, false, false, false] rfl rfl (by kernel_rfl) (fun _ _ _ h => h) (Or.inl ⟨by rfl, ?_⟩) ?_ ?_
      rotate_left
      · intro w'
        go_simp
        with_reducible rfl
      rotate_left
      · simp only [Act.put, List.setIfInBounds_toArray, List.set_cons_zero, List.set_cons_succ, i64_w, i32_w]
        rfl
      refine pure_ (i := 4) (N := (some 42)) (v := ?_) (a' := ?_) #[true, true, true, true, true, false, false, false, false, false] rfl rfl (by kernel_rfl) (fun _ _ _ h => h) (Or.inl ⟨by rfl, ?_⟩) ?_ ?_
      rotate_left
      · intro w'
        go_simp
        with_reducible rfl
      rotate_left
      · simp only [Act.put, List.setIfInBounds_toArray, List.set_cons_zero, List.set_cons_succ, i64_w, i32_w]
        rfl
      refine pure_ (i := 5) (N := (some 43)) (v := ?_) (a' := ?_) #[true, true, true, true, true, true, false, false, false, false] rfl rfl (by kernel_rfl) (fun _ _ _ h => h) (Or.inl ⟨by rfl, ?_⟩) ?_ ?_
      rotate_left
      · intro w'
        go_simp
        with_reducible rfl
      rotate_left
      · simp only [Act.put, List.setIfInBounds_toArray, List.set_cons_zero, List.set_cons_succ, i64_w, i32_w]
        rfl
      refine pure_ (i := 6) (N := (some 44)) (v := ?_) (a' := ?_) #[true, true, true, true, true, true, true, false, false, false] rfl rfl (by kernel_rfl) (fun _ _ _ h => h) (Or.inl ⟨by rfl, ?_⟩) ?_ ?_
      rotate_left
      · intro w'
        go_simp
        with_reducible rfl
      rotate_left
      · simp only [Act.put, List.setIfInBounds_toArray, List.set_cons_zero, List.set_cons_succ, i64_w, i32_w]
        rfl
      refine one_ (i := 7) (N := (some 45)) #[true, true, true, true, true, true, true, true, false, false] rfl rfl (by kernel_rfl) (by decide) (fun K hK => ?_)
      refine val_ (v := .int .i64 ((min (n - k) k : Nat) : Int)) (w' := wr.drew.setRow w.heap.size (repC n (k + min (n - k) k))) (by rfl) rfl (by go_simp; rw [HCP.out 3]; rfl) ?_
      refine hK.out _ _ trivial (fun hHeld => ?_)
      clear hK K
      refine norm_ (a' := ?_) ?_ ?_
      rotate_left
      · show Act.put _ (some 45) _ = _
        simp only [Act.put, List.setIfInBounds_toArray, List.set_cons_zero, List.set_cons_succ, i64_w, i32_w]
        rfl
      refine pure_ (i := 8) (N := (some 46)) (v := ?_) (a' := ?_) #[true, true, true, true, true, true, true, true, true, false] rfl rfl (by kernel_rfl) (fun _ _ _ h => h) (Or.inl ⟨by rfl, ?_⟩) ?_ ?_
      rotate_left
      · intro w'
        go_simp
        with_reducible rfl
      rotate_left
      · simp only [Act.put, List.setIfInBounds_toArray, List.set_cons_zero, List.set_cons_succ, i64_w, i32_w]
        rfl
      refine pure_ (i := 9) (N := (some 8)) (v := ?_) (a' := ?_) #[true, true, true, true, true, true, true, true, true, true] rfl rfl (by kernel_rfl) (fun _ _ _ h => h) (Or.inl ⟨by rfl, ?_⟩) ?_ ?_
      rotate_left
      · intro w'
        go_simp
        with_reducible rfl
      rotate_left
      · simp only [Act.put, List.setIfInBounds_toArray, List.set_cons_zero, List.set_cons_succ, i64_w, i32_w]
        rfl
      refine done_ (by kernel_rfl) ?_
      go_wp2_with fail
      obtain ⟨k2, hk2⟩ : ∃ k2, k2 = k + min (n - k) k := ⟨_, rfl⟩
      have hw : wrap64 ((k : Int) + ((min (n - k) k : Nat) : Int)) = (k2 : Int) := by unfold wrap64; omega
      rw [hw, ← hk2]
      exact ⟨⟨k2, rfl, by omega, by omega, ⟨setRow_heap wr.drew w.heap.size _ _ _ _ G.out⟩, ⟨below_setRow EB.out (Nat.le_refl _) _⟩⟩, by simp [intOf]; omega⟩
    · obtain rfl : k = n := by omega
      go_wp2_with fail
      go_ret
      have e1 : repC k k = ((List.replicate k (-1)).map (Value.int .i64)).toArray := by simp [repC]
      exact ⟨rfl, by rw [← e1]; exact G.out, EB.out⟩
end Go.Proofs.YtfgbkklhjocmjaaDoor.Xq
namespace Go.Proofs.YtfgbkklhjocmjaaDoor.Xq
open Go.RowKit Go.Lib Go.Sort Go.Proofs.YtfgbkklhjocmjaaDoorW.PrintWords Go.Proofs.YtfgbkklhjocmjaaDoorW.PrintLast Go.Proofs.YtfgbkklhjocmjaaDoor.Gv
structure DSt (Bf Bw gf base : Nat) (Pr : Nat → Prop) (far work : List Int) (W : World) : Prop where
  hf : W.heap[Bf]? = some (.cells #[.slice (some ⟨gf, 0, none⟩) far.length far.length] 31)
  hc : W.heap[gf]? = some (.cells ((far.map (Value.int .i64)).toArray) 3 (0, 0))
  hw : ∃ vw, W.heap[Bw]? = some (.cells #[vw] 31) ∧ Kd.Q (Kd.int .i64) 3 W base (fun k => ¬ Pr k ∧ k ≠ gf) vw work
  pr : ∀ k, Pr k → k < W.heap.size ∧ k ≠ gf ∧ k ≠ Bw
  nb : Bf ≠ Bw
def bstep (v : Int) (s : List Int × List Int) (w : Int) : List Int × List Int := if rd s.1 w < 0 then (s.1.set w.toNat (wrap64 (rd s.1 v + 1)), s.2 ++ [w]) else s
def distF (back : List S53) : Nat → List Int × List Int → Option (List Int)
  | 0, _ => none
  | k + 1, s => match s.2 with
    | [] => some s.1
    | v :: r => if r.length ≤ 100000 then distF back k ((succL back v).foldl (bstep v) (s.1, r)) else none
theorem Q_typed {A : World} {base : Nat} {ok : Nat → Prop} {v : Value} {xs : List Int} (h : Kd.Q (Kd.int .i64) 3 A base ok v xs) (k : Nat) (hk : v.ownBlock = some k) : ∃ cells, A.heap[k]? = some (.cells cells 3 (0, 0)) := by
  obtain ⟨h1, _, q, hq, cells, hc⟩ := (Kd.Q_bound (Kd.Q_tight rfl h)).1 k hk |>.2
  have : q = 3 := by simpa [Kd.int, Kd.scalar] using hq
  subst this
  exact ⟨cells, hc⟩
theorem Q_ne {A : World} {base : Nat} {ok : Nat → Prop} {v : Value} {xs : List Int} (h : Kd.Q (Kd.int .i64) 3 A base ok v xs) {k : Nat} {o : Obj} (hk : A.heap[k]? = some o) (ho : ∀ cells, o ≠ .cells cells 3 (0, 0)) : some k ≠ v.ownBlock := by
  intro e
  obtain ⟨cells, hc⟩ := Q_typed h k e.symm
  rw [hk] at hc
  exact ho cells (Option.some.inj hc)
theorem Q_reok {A : World} {base : Nat} {ok ok' : Nat → Prop} {v : Value} {xs : List Int} (h : Kd.Q (Kd.int .i64) 3 A base ok v xs) (hok : ∀ k, v.ownBlock = some k → ok' k) : Kd.Q (Kd.int .i64) 3 A base ok' v xs := Kd.Q_mono (Kd.Q_tight rfl h) (fun k hk => hok k hk.symm)
section
variable {Bf Bw gf base : Nat} {Pr Pr' : Nat → Prop} {far work : List Int} {W W' : World}
theorem DSt.own (h : DSt Bf Bw gf base Pr far work W) {row : Option Nat} (hg : W.grownBy W' row) (hr : ∀ r, row = some r → ∃ o : Obj, W.heap[r]? = some o ∧ o.isCells = false) : DSt Bf Bw gf base Pr far work W' := by
  obtain ⟨vw, h1, h2⟩ := h.hw
  refine ⟨(hg.block _ (blk_lt h.hf) (cells_ne hr h.hf)).trans h.hf, (hg.block _ (blk_lt h.hc) (cells_ne hr h.hc)).trans h.hc, ⟨vw, (hg.block _ (blk_lt h1) (cells_ne hr h1)).trans h1, Kd.Q_grown2 h2 rfl hg (fun k e => ?_)⟩, fun k hk => ?_, h.nb⟩
  · obtain ⟨o, ho, hc⟩ := hr k e
    exact Q_ne h2 ho (fun cells e => by rw [e] at hc; simp [Obj.isCells] at hc)
  · obtain ⟨p1, p2, p3⟩ := h.pr k hk
    exact ⟨Nat.lt_of_lt_of_le p1 hg.size, p2, p3⟩
theorem DSt.below (h : DSt Bf Bw gf base Pr far work W) (hb : Below W.heap.size W W') (hp : ∀ k, Pr' k → Pr k ∨ (W.heap.size ≤ k ∧ k < W'.heap.size)) : DSt Bf Bw gf base Pr' far work W' := by
  obtain ⟨vw, h1, h2⟩ := h.hw
  refine ⟨blk_below h.hf hb, blk_below h.hc hb, ⟨vw, blk_below h1 hb, Kd.Q_below (Q_reok h2 (fun k hk => ⟨fun hp' => ?_, (h2.1 k hk).2⟩)) hb⟩, fun k hk => ?_, h.nb⟩
  · rcases hp k hp' with h3 | h3
    · exact (h2.1 k hk).1 h3
    · have := Kd.Q_lt h2 k hk; omega
  · rcases hp k hk with h3 | h3
    · obtain ⟨p1, p2, p3⟩ := h.pr k h3
      exact ⟨Nat.lt_of_lt_of_le p1 hb.size, p2, p3⟩
    · have := blk_lt h.hc
      have := blk_lt h1
      exact ⟨h3.2, by omega, by omega⟩
theorem DSt.prot (h : DSt Bf Bw gf base Pr far work W) (hp : ∀ k, Pr' k → Pr k ∨ ∃ o : Obj, W.heap[k]? = some o ∧ o.isCells = false) : DSt Bf Bw gf base Pr' far work W := by
  obtain ⟨vw, h1, h2⟩ := h.hw
  refine ⟨h.hf, h.hc, ⟨vw, h1, Q_reok h2 (fun k hk => ⟨fun hp' => ?_, (h2.1 k hk).2⟩)⟩, fun k hk => ?_, h.nb⟩
  · rcases hp k hp' with h3 | ⟨o, ho, hc⟩
    · exact (h2.1 k hk).1 h3
    · exact Q_ne h2 ho (fun cells e => by rw [e] at hc; simp [Obj.isCells] at hc) hk.symm
  · rcases hp k hk with h3 | ⟨o, ho, hc⟩
    · exact h.pr k h3
    · refine ⟨blk_lt ho, ?_, ?_⟩
      · intro e; subst e; rw [h.hc] at ho; cases ho; simp [Obj.isCells] at hc
      · intro e; subst e; rw [h1] at ho; cases ho; simp [Obj.isCells] at hc
theorem dst_end (h : DSt Bf Bw gf base Pr far work W) (hb1 : base ≤ gf) (hb2 : base ≤ Bw) (hb3 : base ≤ W.heap.size) {w1 w3 : World} (hd : Drawn0 W w1) {q : Nat} {d x : Int} {vw v1 : Value}
    (hvw : W.heap[Bw]? = some (.cells #[vw] 31)) (hr : Kd.Q (Kd.int .i64) 3 W base (fun k => ¬ Pr k ∧ k ≠ gf) vw work)
    (hF : Kd.Q (Kd.int .i64) 3 w3 base (fun k => ¬ Pr k ∧ k ≠ gf) v1 (work ++ [x])) (hg : (w1.setCell ⟨gf, q, none⟩ (.int .i64 d)).grownBy w3 vw.ownBlock) :
    DSt Bf Bw gf base Pr (far.set q d) (work ++ [x]) (w3.setCell ⟨Bw, 0, none⟩ v1) ∧ (∀ k, Pr k → (w3.setCell ⟨Bw, 0, none⟩ v1).heap[k]? = W.heap[k]?) ∧ Below base W (w3.setCell ⟨Bw, 0, none⟩ v1) ∧ KeepsOthers W (w3.setCell ⟨Bw, 0, none⟩ v1) := by
  obtain ⟨nd, rfl⟩ := hd
  have hsz : ((W.drewN nd).setCell ⟨gf, q, none⟩ (.int .i64 d)).heap.size = W.heap.size := by simp
  have hgs := blk_lt h.hc
  have hBw := blk_lt hvw
  have ngw : gf ≠ Bw := by intro e; have h1 := h.hc; rw [e, hvw] at h1; simp at h1
  have nfg : Bf ≠ gf := by intro e; have h1 := h.hf; rw [e, h.hc] at h1; simp at h1
  have oth : ∀ k, k < W.heap.size → k ≠ gf → k ≠ Bw → some k ≠ vw.ownBlock → (w3.setCell ⟨Bw, 0, none⟩ v1).heap[k]? = W.heap[k]? := fun k hk h1 h2 h3 =>
    (Below.heap_setCell w3 ⟨Bw, 0, none⟩ v1 k h2).trans ((hg.block k (by rw [hsz]; exact hk) h3).trans (Below.heap_setCell (W.drewN nd) ⟨gf, q, none⟩ _ k h1))
  have hw3 : w3.heap[Bw]? = some (.cells #[vw] 31) := (hg.block Bw (by rw [hsz]; exact hBw) (Q_ne hr hvw (fun cells e => by simp at e))).trans ((Below.heap_setCell (W.drewN nd) ⟨gf, q, none⟩ _ Bw (Ne.symm ngw)).trans hvw)
  have hng : some gf ≠ vw.ownBlock := fun e => (hr.1 gf e.symm).2 rfl
  refine ⟨⟨?_, ?_, ⟨v1, blk_put hw3 0 v1 rfl, Kd.Q_set hF hw3 (by decide) 0 v1⟩, ?_, h.nb⟩, ?_, ?_, ?_⟩
  · rw [List.length_set]
    exact (oth Bf (blk_lt h.hf) nfg h.nb (Q_ne hr h.hf (fun cells e => by simp at e))).trans h.hf
  · have h1 : ((W.drewN nd).setCell ⟨gf, q, none⟩ (.int .i64 d)).heap[gf]? = some (.cells (((far.set q d).map (Value.int .i64)).toArray) 3 (0, 0)) :=
      blk_put (show (W.drewN nd).heap[gf]? = _ from h.hc) q _ (by simp [List.map_set])
    exact (Below.heap_setCell w3 ⟨Bw, 0, none⟩ v1 gf ngw).trans ((hg.block gf (by rw [hsz]; exact hgs) hng).trans h1)
  · intro k hk
    obtain ⟨p1, p2, p3⟩ := h.pr k hk
    refine ⟨?_, p2, p3⟩
    have := hg.size
    rw [hsz] at this
    simp
    omega
  · intro k hk
    obtain ⟨p1, p2, p3⟩ := h.pr k hk
    exact oth k p1 p2 p3 (fun e => (hr.1 k e.symm).1 hk)
  · have b1 : Below base W ((W.drewN nd).setCell ⟨gf, q, none⟩ (.int .i64 d)) := ((pw_below_drewN (Below.refl base W) nd).setCell (p := ⟨gf, q, none⟩) hb1 _)
    have b2 : Below base W w3 := b1.grown hg (by rw [hsz]; exact hb3) (fun k hk => Kd.Q_base hr k hk)
    exact b2.setCell (p := ⟨Bw, 0, none⟩) hb2 v1
  · refine ⟨?_, fun k o hk ho => (oth k (blk_lt hk) ?_ ?_ ?_).trans hk⟩
    · have := hg.size
      rw [hsz] at this
      simp
      omega
    · intro e; subst e; rw [h.hc] at hk; cases hk; simp [Obj.isCells] at ho
    · intro e; subst e; rw [hvw] at hk; cases hk; simp [Obj.isCells] at ho
    · exact Q_ne hr hk (fun cells e => by rw [e] at ho; simp [Obj.isCells] at ho)
end
theorem rev_rising {n : Int} {l : List S53} (h : Valid n l) : Rising (sortE (l.map swapE)) ∧ Ends (sortE (l.map swapE)) ∧ ∀ x ∈ sortE (l.map swapE), withinB n x = true := by
  obtain ⟨h1, h2⟩ := srtP_spec ((l.map swapE).map toP).toArray
  have hin : ∀ x ∈ sortE (l.map swapE), withinB n x = true := by
    intro x hx
    unfold sortE at hx
    obtain ⟨y, hy, rfl⟩ := List.mem_map.1 hx
    have := (h2 y).1 hy
    simp only [List.toList_toArray, List.map_map, List.mem_map] at this
    obtain ⟨z, hz, rfl⟩ := this
    have h3 := within_iff.1 (h.ins z hz)
    exact within_iff.2 ⟨h3.2.2.1, h3.2.2.2, h3.1, h3.2.1⟩
  refine ⟨?_, ?_, hin⟩
  · intro a b hab hb
    rw [sortE_len] at hb
    have hs : (srtP ((l.map swapE).map toP).toArray).size = (l.map swapE).length := by rw [srtP_size]; simp
    have e : ∀ i, i < (l.map swapE).length → rd_T53 (sortE (l.map swapE)) (i : Int) = ofP (srtP ((l.map swapE).map toP).toArray)[i]! := by
      intro i hi
      rw [rd_at' (by rw [sortE_len]; exact hi), getElem!_pos _ _ (by rw [hs]; exact hi)]
      simp [sortE]
    rw [e a (by omega), e b hb]
    rcases Nat.eq_or_lt_of_le hab with rfl | hlt
    · exact Int.le_refl _
    · have := h1 a b hlt (by rw [← srtP_size, hs]; exact hb)
      unfold LtP at this
      show ((srtP ((l.map swapE).map toP).toArray)[a]!).1 ≤ ((srtP ((l.map swapE).map toP).toArray)[b]!).1
      omega
  · intro a ha
    rw [rd_at' ha]
    exact (within_iff.1 (hin _ (List.getElem_mem ha))).2.2.1
end Go.Proofs.YtfgbkklhjocmjaaDoor.Xq
namespace Go.Proofs.YtfgbkklhjocmjaaDoor.Xq
open Go.RowKit Go.Proofs.YtfgbkklhjocmjaaDoorW.PrintLast
variable {lp n : Nat} {P : Program} {ops : Array Oper} {Q : Exit → Act → World → Prop}
theorem opIn_of_wp {o : Oper} {a : Act} {w : World} {next : Act → World → Prop} (hd : ∀ c, o.op ≠ .defer c) (h : o.wp P a w next Q) : o.wpIn (Fence.wide.inRound lp) n P a w next Q := by
  refine ⟨fun _ _ => trivial, ?_⟩
  rw [Oper.semAt_eq _ _ _ hd]
  unfold Oper.wp at h
  generalize (execOp a.eval o).run P w = r at h
  cases r with
  | ok nx w' =>
    cases nx with
    | value v => exact h
    | skip => exact h
    | defer d => exact h
    | enter f args => exact ⟨fun hs => by simp [Fence.inRound, Fence.wide] at hs, CallsIn.inRound lp (callsIn_wide.2 h)⟩
    | row row args =>
      refine ⟨fun hs => by simp [Fence.inRound, Fence.wide] at hs, fun c cs _ => ?_⟩
      obtain ⟨v, w', r, s⟩ := h c cs
      exact ⟨v, w', r, stepsIn_wide.2 s⟩
    | round l f tmps assign body => exact h.elim
    | _ => exact h.elim
  | halt hl w' =>
    cases hl with
    | panic v => exact h
    | _ => exact h.elim
def noDefer (ops : Array Oper) : Bool := ops.all fun o => match o.op with | .defer _ => false | _ => true
theorem noDefer_at {i : Nat} {o : Oper} (h : noDefer ops = true) (hi : ops[i]? = some o) : ∀ c, o.op ≠ .defer c := by
  intro c e
  obtain ⟨hlt, rfl⟩ := Array.getElem?_eq_some_iff.1 hi
  have := (Array.all_eq_true.1 h) i hlt
  rw [e] at this
  cases this
theorem wpOpIn_of_wpOp (hno : ¬ LetsOut Q) (hd : noDefer ops = true) {i : Nat} {K : Act → World → Prop} {a : Act} {w : World} (h : wpOp P ops Q i K a w) : wpOpIn (Fence.wide.inRound lp) n P ops Q i K a w := by
  unfold wpOp at h
  unfold wpOpIn
  cases ho : ops[i]? with
  | none => rw [ho] at h; exact h
  | some o =>
    rw [ho] at h
    simp only at h ⊢
    by_cases hw : Region.wanted o (yielded ops a.tmps) = true
    · rw [if_pos hw] at h ⊢
      rcases h with h | h
      · exact opIn_of_wp (noDefer_at hd ho) h
      · exact absurd h.2 hno
    · rw [if_neg hw] at h ⊢
      exact ⟨fun _ _ => trivial, h⟩
theorem wpAnyIn_of_wpAny (hno : ¬ LetsOut Q) (hd : noDefer ops = true) {md : Region.Mode} : ∀ (fuel : Nat) (listed : Array Bool) (a : Act) (w : World), wpAny P md ops Q fuel listed a w → wpAnyIn (Fence.wide.inRound lp) n P md ops Q fuel listed a w
  | 0, _, _, _, h => h
  | fuel + 1, _, a, w, h => ⟨h.1, fun i hi => wpOpIn_of_wpOp hno hd (wpOp_mono (fun a' w' h' => wpAnyIn_of_wpAny hno hd fuel _ a' w' h') (h.2 i hi))⟩
theorem wpListIn_of_wpList (hno : ¬ LetsOut Q) : ∀ (l : List Oper) (a : Act) (w : World), (∀ o ∈ l, ∀ c, o.op ≠ .defer c) → wpList P ops Q l a w → wpListIn (Fence.wide.inRound lp) n P ops Q l a w
  | [], _, _, _, h => h
  | o :: rest, a, w, hd, h => by
    unfold wpList at h
    unfold wpListIn
    by_cases hw : Region.wanted o (yielded ops a.tmps) = true
    · rw [if_pos hw] at h ⊢
      rcases h with h | h
      · refine Oper.wpIn_mono (fun a' w' h' => wpListIn_of_wpList hno rest a' w' (fun o' ho' => hd o' (by simp [ho'])) h') (opIn_of_wp (hd o (by simp)) h)
      · exact absurd h.2 hno
    · rw [if_neg hw] at h ⊢
      exact ⟨fun _ _ => trivial, wpListIn_of_wpList hno rest _ _ (fun o' ho' => hd o' (by simp [ho'])) h⟩
theorem region_in {id : Nat} {a : Act} {w : World} {l : List Oper} (hno : ¬ LetsOut Q) (hd : noDefer l.toArray = true) (h : wpList P l.toArray Q l a w) : (Code.region id l.toArray false).wpIn (Fence.wide.inRound lp) n P Q a w :=
  wpIn_region_lit (wpListIn_of_wpList hno l a w (fun o ho => by
    obtain ⟨i, hi, rfl⟩ := List.mem_iff_getElem.1 ho
    exact noDefer_at (i := i) hd (by simp [hi])) h)
theorem start_in {S : World → Prop} {ds : List Nat} {id m : Nat} {a : Act} {w : World} (l : Array Bool) (hno : ¬ LetsOut Q) (hd : noDefer ops = true) (hm : P.follows .mixedOrders = true) (hn : ops.size = m) (hl : Array.replicate m false = l) (hS : S w.drew)
    (h : S w.drew → wpAnyLast P .any ops Q S ds m l a w.drew) : (Code.region id ops true).wpIn (Fence.wide.inRound lp) n P Q a w := by
  subst hn
  subst hl
  exact wpIn_region_any hm (wpAnyIn_of_wpAny hno hd _ _ _ _ (wpAny_of_last _ _ _ _ (h hS)))
end Go.Proofs.YtfgbkklhjocmjaaDoor.Xq
namespace Go.Proofs.YtfgbkklhjocmjaaDoor.Xq
open Go.RowKit Go.Shelf Go.Proofs.YtfgbkklhjocmjaaDoorW.PrintWords Go.Proofs.YtfgbkklhjocmjaaDoorW.PrintLast Go.Proofs.YtfgbkklhjocmjaaDoor.Gv
attribute [local go_sem] Oper.semAt_some
def sg {α : Type} (el : Nat → α) (k : Nat) : List α := (List.range k).map el
theorem sg_succ {α : Type} (el : Nat → α) (k : Nat) : sg el (k + 1) = sg el k ++ [el k] := by simp [sg, List.range_succ]
theorem sg_length {α : Type} (el : Nat → α) (k : Nat) : (sg el k).length = k := by simp [sg]
set_option maxRecDepth 100000 in
set_option maxHeartbeats 2000000 in
theorem next1_inP (n : Nat) (hn : 1 ≤ n) (lp Ba Bg Bv : Nat) {α : Type} (el : Nat → α) (val : α → Int) (A : Option Addr) (c : Nat) (l : List S53) (v : Int) (i m : Nat)
    (hm : As2 (i + m ≤ l.length ∧ (∀ j, j < m → (rd_T53 l ((i + j : Nat) : Int)).f0 = v) ∧ (i + m < l.length → (rd_T53 l ((i + m : Nat) : Int)).f0 ≠ v)))
    (hval : ∀ j, j < m → val (el j) = (rd_T53 l ((i + j : Nat) : Int)).f1) (J Jx : List α → World → Prop) (W : World) (hJ : AbidesFrom W.heap.size J)
    (hY : ∀ pre x W1, J pre W1 → pre.length < m → YieldAt Fence.wide (n - 1) Tryd.prog lp #[.int .i64 (val x)] W1 fun e W' =>
      (e = .returned (.bool true) ∧ J (pre ++ [x]) W' ∧ (NextRd Ba Bg Bv A c l v i W1 → NextRd Ba Bg Bv A c l v i W')) ∨ (e = .returned (.bool false) ∧ Jx (pre ++ [x]) W'))
    (hR0 : NextRd Ba Bg Bv A c l v i W) (h0 : J [] W) :
    CallsIn Fence.wide n Tryd.prog 94 #[.func (.yield lp) #[] #[], .pointer (some ⟨Ba, 0, none⟩), .pointer (some ⟨Bg, 0, none⟩), .pointer (some ⟨Bv, 0, none⟩)] W fun e W' => (∃ v, e = .returned v) ∧
      ((∃ ys, ys = sg el m ∧ J ys W') ∨ (∃ pre, (∃ k, k ≤ m ∧ pre = sg el k) ∧ Jx pre W')) := by
  have HR := As2.mk hR0
  have ca := hR0.ca
  clear hR0
  refine callsIn_of_wp Tryd.func94 rfl trivial ?_ rfl
  simp only [Tryd.ntmps94, List.size_toArray, List.length_cons, List.length_nil, Nat.reduceAdd, Nat.reduceSub, Array.replicate_succ, Array.replicate_zero, List.push_toArray, List.append_toArray, List.nil_append, List.cons_append]
  gi_wp2
  gi_loopw [5] (fun p wr => ∃ k : Nat, k ≤ m ∧ p = .int .i64 ((i + k : Nat) : Int) ∧ As2 (J (sg el k) wr) ∧ As2 (NextRd Ba Bg Bv A c l v i wr))
    (fun p _ => i + m - (intOf p).toNat)
  case atStart => exact ⟨0, Nat.zero_le _, rfl, ⟨h0⟩, HR⟩
  case round =>
    clear HR h0 ca
    obtain ⟨k, hk, rfl, hJs, HR⟩ := hrel
    have ca := HR.out.ca
    have cg := HR.out.cg
    have cv := HR.out.cv
    have hml := hm.out.1
    have hcap := HR.out.es.2.1
    by_cases hlt : i + k < l.length
    · obtain ⟨ad, rfl, c0, c1⟩ := at_T53 HR.out.es ((i + k : Nat) : Int) (by omega) (by omega)
      rw [Int.toNat_natCast] at c0 c1
      have hlt' : ((i + k : Nat) : Int) < (l.length : Int) := by omega
      generalize hix : i + k = ix at c0 c1 hlt hlt'
      have HIX := As2.mk hix
      clear hix
      generalize hy : rd_T53 l (ix : Int) = y at c0 c1
      have Y := As2.mk hy
      clear hy
      by_cases hv : y.f0 = v
      · have hkm : k < m := by
          rcases Nat.lt_or_ge k m with h | h
          · exact h
          · exfalso
            obtain rfl : k = m := by omega
            have := hm.out.2.2 (by have := HIX.out; omega)
            rw [HIX.out, Y.out] at this
            exact this hv
        have hvd : decide (y.f0 = v) = true := decide_eq_true hv
        gi_wp2_with fail
        gi_quiet (fail)
        have J2 := As2.mk (hJ (sg el k) wr (wr.drewN nq) none hJs.out (grownBy_drewN' wr nq) (fun r e => by cases e))
        have R2 := As2.mk (HR.out.below (pw_below_drewN (Below.refl _ _) nq))
        obtain ⟨fn, tmps, assign, body, hy, hR⟩ := hY (sg el k) (el k) _ J2.out (by rw [sg_length]; exact hkm)
        rw [hval k hkm, HIX.out, Y.out] at hy
        clear J2 hY
        gi_wp2
        refine hR.mono ?_
        rintro e W3 (⟨rfl, hJ3, hk3⟩ | ⟨rfl, hJx3⟩)
        · have R3 := As2.mk (hk3 R2.out)
          have J3 := As2.mk hJ3
          clear hk3 hJ3 hR
          gi_wp2
          go_roundw
          case rel => exact ⟨k + 1, by omega, by have := HIX.out; simp; omega, ⟨by rw [sg_succ]; exact J3.out⟩, R3⟩
          case measure => have := HIX.out; simp [intOf]; omega
        · have JX := As2.mk hJx3
          clear hJx3 hR
          gi_wp2
          refine bodyPost_ret (results_none rfl _ _ _) rfl ?_
          exact ⟨⟨_, rfl⟩, .inr ⟨_, ⟨k + 1, by omega, rfl⟩, by rw [sg_succ]; exact JX.out⟩⟩
      · have hvd : (y.f0 == v) = false := by simpa using hv
        have hkm : k = m := by
          rcases Nat.lt_or_ge k m with h | h
          · exfalso
            have := hm.out.2.1 k h
            rw [HIX.out, Y.out] at this
            exact hv this
          · omega
        have KM := As2.mk hkm
        clear hkm hv
        gi_wp2_with fail
        gi_quiet (fail)
        have J2 := As2.mk (hJ (sg el k) wr (wr.drewN nq) none hJs.out (grownBy_drewN' wr nq) (fun r e => by cases e))
        gi_wp2
        go_end0
        exact ⟨⟨_, rfl⟩, .inl ⟨_, rfl, by rw [← KM.out]; exact J2.out⟩⟩
    · have hkm : k = m := by omega
      have hlt' : ¬ ((i + k : Nat) : Int) < (l.length : Int) := by omega
      have hltd : decide (((i + k : Nat) : Int) < (l.length : Int)) = false := decide_eq_false hlt'
      generalize hix : i + k = ix at hlt hlt' hltd
      have KM := As2.mk hkm
      clear hkm
      gi_wp2_with fail
      gi_quiet (fail)
      have J2 := As2.mk (hJ (sg el k) wr (wr.drewN nq) none hJs.out (grownBy_drewN' wr nq) (fun r e => by cases e))
      gi_wp2
      go_end0
      exact ⟨⟨_, rfl⟩, .inl ⟨_, rfl, by rw [← KM.out]; exact J2.out⟩⟩
theorem next_stopsP (n : Nat) (hn : 1 ≤ n) (Ba Bg Bv : Nat) (A : Option Addr) (c : Nat) (l : List S53) (v : Int) (i : Nat) (hr : Rising l) (ha : NextAt l v i) (Pp : Int → Prop) (df : {y // Pp y}) (hP : ∀ y ∈ succL l v, Pp y) (w : World) (hR : NextRd Ba Bg Bv A c l v i w) :
    SeqStopsK Fence.wide n Tryd.prog 94 #[.pointer (some ⟨Ba, 0, none⟩), .pointer (some ⟨Bg, 0, none⟩), .pointer (some ⟨Bv, 0, none⟩)] (fun x : {y // Pp y} => #[Value.int .i64 x.1])
      (fun W W' => NextRd Ba Bg Bv A c l v i W → NextRd Ba Bg Bv A c l v i W') (fun ys => ys.map (·.1) = succL l v) (fun pre => pre.map (·.1) <+: succL l v) (succL l v).length w := fun lp J Jx W hW hJ hJx hY h0 => by
  obtain ⟨m, h1, h2, h3, h4⟩ := succ_seg l v i hr ha
  have hlen : (succL l v).length = m := by rw [← h4, seg_length]
  obtain ⟨el, hel⟩ : ∃ el : Nat → {y // Pp y}, ∀ j, j < m → (el j).1 = (rd_T53 l ((i + j : Nat) : Int)).f1 := by
    classical
    refine ⟨fun j => if h : Pp (rd_T53 l ((i + j : Nat) : Int)).f1 then ⟨_, h⟩ else df, fun j hj => ?_⟩
    have : Pp (rd_T53 l ((i + j : Nat) : Int)).f1 := hP _ (by
      rw [← h4]
      exact List.mem_map.2 ⟨j, List.mem_range.2 hj, rfl⟩)
    exact congrArg Subtype.val (dif_pos this)
  have hseg : ∀ k, k ≤ m → (sg el k).map (·.1) = seg l i k := fun k hk => by
    unfold sg seg
    rw [List.map_map]
    exact List.map_congr_left (fun j hj => hel j (Nat.lt_of_lt_of_le (List.mem_range.1 hj) hk))
  refine (next1_inP n hn lp Ba Bg Bv el (·.1) A c l v i m ⟨h1, h2, h3⟩ hel J Jx W hJ (fun pre x W1 hj hl => hY pre x W1 hj (by rw [hlen]; exact hl)) (hR.below hW) h0).mono ?_
  rintro e W' ⟨he, ⟨ys, rfl, hj⟩ | ⟨pre, ⟨k, hk, rfl⟩, hj⟩⟩
  · exact ⟨he, .inl ⟨_, (hseg m (Nat.le_refl _)).trans h4, hj⟩⟩
  · refine ⟨he, .inr ⟨_, ?_, hj⟩⟩
    show (sg el k).map (·.1) <+: succL l v
    rw [hseg k hk, ← h4]
    obtain ⟨d, rfl⟩ : ∃ d, m = k + d := ⟨m - k, by omega⟩
    exact ⟨(List.range d).map fun j : Nat => (rd_T53 l ((i + (k + j) : Nat) : Int)).f1, by simp [seg, List.range_add, Function.comp_def]⟩
end Go.Proofs.YtfgbkklhjocmjaaDoor.Xq
namespace Go.Proofs.YtfgbkklhjocmjaaDoor.Xq
open Go.RowKit Go.Lib Go.Sort Go.Shelf Go.Proofs.YtfgbkklhjocmjaaDoorW.PrintWords Go.Proofs.YtfgbkklhjocmjaaDoorW.PrintLast Go.Proofs.YtfgbkklhjocmjaaDoor.Gv
attribute [local go_sem] Oper.semAt_some
theorem R_blkI {W : World} {base g : Nat} {ok : Nat → Prop} {xs : List Int} (h : W.heap[g]? = some (.cells ((xs.map (Value.int .i64)).toArray) 3 (0, 0))) (hb : base ≤ g) (hok : ok g) (hl : xs.length ≤ 9223372036854775807) : Kd.R (Kd.int .i64) 3 W base ok (.slice (some ⟨g, 0, none⟩) xs.length xs.length) xs :=
  Kd.R_of_own ⟨by simp [encs], .inr ⟨g, xs.length, _, rfl, hb, h, Nat.le_refl _, hl, by simp, by simp [encs, List.take_of_length_le]⟩⟩ (fun k hk => by simp [Value.ownBlock] at hk; subst hk; exact hok)
structure DLp (w : World) (n : Nat) (Ab : Option Addr) (cb : Nat) (back : List S53) (Bb Bf Bw gf base : Nat) (Pr : Nat → Prop) (far work : List Int) (W : World) : Prop where
  ds : DSt Bf Bw gf base Pr far work W
  bb : W.heap[Bb]? = some (.cells #[.int .i64 n, .slice Ab back.length cb] 24)
  br : Kd.R k53 53 W base (fun k => some k = (Value.slice Ab back.length cb).ownBlock) (.slice Ab back.length cb) back
  bl : Below base w W
  p1 : Pr Bb
  p2 : ∀ k, some k = (Value.slice Ab back.length cb).ownBlock → Pr k
section
variable {w : World} {n : Nat} {Ab : Option Addr} {cb : Nat} {back : List S53} {Bb Bf Bw gf base : Nat} {Pr Pr' : Nat → Prop} {far work far' work' : List Int} {W W' : World}
theorem DLp.own (h : DLp w n Ab cb back Bb Bf Bw gf base Pr far work W) {row : Option Nat} (hg : W.grownBy W' row) (hr : ∀ r, row = some r → base ≤ r ∧ ∃ o : Obj, W.heap[r]? = some o ∧ o.isCells = false) (hbs : base ≤ w.heap.size) : DLp w n Ab cb back Bb Bf Bw gf base Pr far work W' :=
  ⟨h.ds.own hg (fun r e => (hr r e).2), (hg.block _ (blk_lt h.bb) (cells_ne (fun r e => (hr r e).2) h.bb)).trans h.bb, Kd.R_grown2 h.br rfl hg (fun k e => by
    obtain ⟨_, o, ho, hc⟩ := hr k e
    exact own_ne h.br ho hc), h.bl.grown hg (Nat.le_trans hbs h.bl.size) (fun r e => (hr r e).1), h.p1, h.p2⟩
theorem DLp.below (h : DLp w n Ab cb back Bb Bf Bw gf base Pr far work W) (hb : Below W.heap.size W W') (hbs : base ≤ w.heap.size) (hp : ∀ k, Pr' k → Pr k ∨ (W.heap.size ≤ k ∧ k < W'.heap.size)) (hq : ∀ k, Pr k → Pr' k) : DLp w n Ab cb back Bb Bf Bw gf base Pr' far work W' :=
  ⟨h.ds.below hb hp, blk_below h.bb hb, Kd.R_below h.br hb, h.bl.trans (hb.mono (Nat.le_trans hbs h.bl.size)), hq _ h.p1, fun k hk => hq k (h.p2 k hk)⟩
theorem DLp.prot (h : DLp w n Ab cb back Bb Bf Bw gf base Pr far work W) (hp : ∀ k, Pr' k → Pr k ∨ ∃ o : Obj, W.heap[k]? = some o ∧ o.isCells = false) (p1 : Pr' Bb) (p2 : ∀ k, some k = (Value.slice Ab back.length cb).ownBlock → Pr' k) : DLp w n Ab cb back Bb Bf Bw gf base Pr' far work W :=
  ⟨h.ds.prot hp, h.bb, h.br, h.bl, p1, p2⟩
theorem DLp.step (h : DLp w n Ab cb back Bb Bf Bw gf base Pr far work W) (hd : DSt Bf Bw gf base Pr far' work' W') (hs : ∀ k, Pr k → W'.heap[k]? = W.heap[k]?) (hb : Below base W W') : DLp w n Ab cb back Bb Bf Bw gf base Pr far' work' W' :=
  ⟨hd, (hs _ h.p1).trans h.bb, Kd.R_step h.br (fun k hk _ => hs k (h.p2 k hk)), h.bl.trans hb, h.p1, h.p2⟩
theorem DLp.same (h : DLp w n Ab cb back Bb Bf Bw gf base Pr far work W) (nd : Nat) : DLp w n Ab cb back Bb Bf Bw gf base Pr far work (W.drewN nd) :=
  ⟨h.ds.below (pw_below_drewN (Below.refl _ _) nd) (fun k hk => .inl hk), h.bb, Kd.R_drewN h.br nd, pw_below_drewN h.bl nd, h.p1, h.p2⟩
theorem DLp.setq (h : DLp w n Ab cb back Bb Bf Bw gf base Pr far work W) (hb : base ≤ Bw) {v' : Value} (hq : Kd.Q (Kd.int .i64) 3 W base (fun k => ¬ Pr k ∧ k ≠ gf) v' work') : DLp w n Ab cb back Bb Bf Bw gf base Pr far work' (W.setCell ⟨Bw, 0, none⟩ v') := by
  obtain ⟨vw, h1, h2⟩ := h.ds.hw
  have ngw : gf ≠ Bw := by intro e; have h3 := h.ds.hc; rw [e, h1] at h3; simp at h3
  have oth : ∀ k, k ≠ Bw → (W.setCell ⟨Bw, 0, none⟩ v').heap[k]? = W.heap[k]? := fun k hk => Below.heap_setCell W ⟨Bw, 0, none⟩ v' k hk
  refine h.step ⟨(oth _ h.ds.nb).trans h.ds.hf, (oth _ ngw).trans h.ds.hc, ⟨v', blk_put h1 0 v' rfl, Kd.Q_set hq h1 (by decide) 0 v'⟩, fun k hk => ?_, h.ds.nb⟩ (fun k hk => oth k (h.ds.pr k hk).2.2) ((Below.refl _ W).setCell (p := ⟨Bw, 0, none⟩) hb v')
  obtain ⟨p1, p2, p3⟩ := h.ds.pr k hk
  exact ⟨by simpa using p1, p2, p3⟩
end
theorem rdI {l : List Int} {a : Nat} (h : a < l.length) : Go.Proofs.YtfgbkklhjocmjaaDoorW.PrintWords.rd l (a : Int) = l[a] := by simp [Go.Proofs.YtfgbkklhjocmjaaDoorW.PrintWords.rd, h]
theorem bstep_len (v : Int) (s : List Int × List Int) (w : Int) : (bstep v s w).1.length = s.1.length := by
  unfold bstep
  split <;> simp
theorem bsteps_len (v : Int) : ∀ (xs : List Int) (s : List Int × List Int), (xs.foldl (bstep v) s).1.length = s.1.length
  | [], s => rfl
  | x :: r, s => (bsteps_len v r (bstep v s x)).trans (bstep_len v s x)
theorem bsteps_mem (v : Int) : ∀ (xs : List Int) (s : List Int × List Int) (y : Int), y ∈ (xs.foldl (bstep v) s).2 → y ∈ s.2 ∨ y ∈ xs
  | [], s, y, h => .inl h
  | x :: r, s, y, h => by
    rcases bsteps_mem v r (bstep v s x) y h with h | h
    · unfold bstep at h
      split at h
      · rcases List.mem_append.1 h with h | h
        · exact .inl h
        · exact .inr (by simp at h; simp [h])
      · exact .inl h
    · exact .inr (List.mem_cons_of_mem _ h)
theorem bsteps_wlen (v : Int) : ∀ (xs : List Int) (s : List Int × List Int), (xs.foldl (bstep v) s).2.length ≤ s.2.length + xs.length
  | [], s => by simp
  | x :: r, s => by
    have h := bsteps_wlen v r (bstep v s x)
    have h2 : (bstep v s x).2.length ≤ s.2.length + 1 := by
      unfold bstep
      split <;> simp
    rw [List.foldl_cons, List.length_cons]
    omega
set_option maxRecDepth 100000 in
set_option maxHeartbeats 4000000 in
theorem distances_yes (n tz : Nat) (A0_1 : Option Addr) (c0_1 : Nat) (l0_1 : List S53) (ws : List Int) (w : World) (hr0_1 : Kd.C k53 w A0_1 l0_1.length l0_1) (hc0_1 : l0_1.length ≤ c0_1)
    (hv : Valid n l0_1) (hto : tz < n) (h : distF (sortE (l0_1.map swapE)) 10000 ((List.replicate n (-1)).set tz 0, [(tz : Int)]) = some ws) :
    CallsIn Fence.wide 3 Tryd.prog 76 #[.agg #[.int .i64 n, .slice A0_1 l0_1.length c0_1], .int .i64 tz] w fun e w' => ∃ g : Nat, e = .returned (.slice (some ⟨g, 0, none⟩) ws.length ws.length) ∧ w.heap.size ≤ g ∧ w'.heap[g]? = some (.cells ((ws.map (Value.int .i64)).toArray) 3 (0, 0)) ∧ Below w.heap.size w w' := by
  have R0 := As2.mk hr0_1
  have HV := As2.mk hv
  have H := As2.mk h
  have hn1 : (n : Int) ≤ 8192 := hv.n1
  have HR := As2.mk (show graph_Reverse.f (n : Int) l0_1 = some ((n : Int), sortE (l0_1.map swapE)) by unfold graph_Reverse.f; rw [if_pos ((chk_zero _ _).2 hv)])
  have RR := As2.mk (rev_rising hv)
  have HL := As2.mk (show (sortE (l0_1.map swapE)).length ≤ 32768 by rw [sortE_len, List.length_map]; exact hv.len)
  obtain ⟨back, hback⟩ : ∃ b, b = sortE (l0_1.map swapE) := ⟨_, rfl⟩
  rw [← hback] at HR H RR HL
  clear hr0_1 hv h hback
  refine callsIn_of_wp_marks Tryd.func76 rfl trivial ?_ rfl
  simp only [Tryd.ntmps76, List.size_toArray, List.length_cons, List.length_nil, Nat.reduceAdd, Nat.reduceSub, Array.replicate_succ, Array.replicate_zero, List.push_toArray, List.append_toArray, List.nil_append, List.cons_append]
  gi_wp2_with (first | (refine ⟨trivial, ?_⟩; gi_at_call 47; refine (callsIn_wide.2 (graph_Reverse.calls (n : Int) A0_1 c0_1 l0_1 _ _ _ ?hr hc0_1 HR.out)).mono ?_; (case hr => exact Kd.C_alloc R0.out _); rintro e w1 ⟨vb, rfl, hrow, hb⟩; obtain ⟨Ab, cb, hvb, hcb, hCb⟩ := Kd.R_reads hrow; subst hvb; have RB := As2.mk hrow; have B1 := As2.mk hb; clear hrow hb hCb; have kk := blk_below (heap_alloc_new w (.cells #[.int .i64 n, .slice A0_1 l0_1.length c0_1] 24)) B1.out; have g0 : w1.cell? ⟨w.heap.size, 0, none⟩ = some (.int .i64 n) := (blk_cell kk 0).trans rfl; have g1 : w1.cell? ⟨w.heap.size, 1, none⟩ = some (.slice A0_1 l0_1.length c0_1) := (blk_cell kk 1).trans rfl; have KK := As2.mk kk; have hs1 := blk_lt kk; clear kk) | (refine ⟨trivial, ?_⟩; gi_at_call 81; obtain ⟨W1, hW1⟩ : ∃ W1, W1 = (w1.alloc (.cells #[.int .i64 n, .slice Ab back.length cb] 24)).alloc (.cells #[.int .i64 (-1)] 3) := ⟨_, rfl⟩; have sz1 : W1.heap.size = w1.heap.size + 2 := (by subst hW1; simp); have kb : W1.heap[w1.heap.size]? = some (.cells #[.int .i64 n, .slice Ab back.length cb] 24) := (by subst hW1; exact blk_alloc (heap_alloc_new w1 _) _); have cx : W1.cell? ⟨w1.heap.size + 1, 0, none⟩ = some (.int .i64 (-1)) := (by subst hW1; have z := heap_alloc_new (w1.alloc (.cells #[.int .i64 n, .slice Ab back.length cb] 24)) (.cells #[.int .i64 (-1)] 3); rw [World.size_alloc] at z; exact (blk_cell z 0).trans rfl); have b1 : Below w1.heap.size w1 W1 := (by subst hW1; exact ((Below.refl _ _).alloc (Nat.le_refl _) _).alloc (by simp) _); rw [← hW1]; clear hW1; refine (callsIn_wide.2 (repeat_calls n (by omega) (by omega) (w1.heap.size + 1) 1 W1 cx)).mono ?_; rintro e w2 ⟨rfl, hblk, hb⟩; have B2 := As2.mk (b1.trans (hb.mono (by omega))); have kb2 := blk_below kb hb; have kg2 := blk_below (blk_below KK.out b1) hb; have FB := As2.mk hblk; have sz2 : w1.heap.size + 3 ≤ w2.heap.size := (by have := blk_lt hblk; omega); have f0 : w2.cell? ⟨W1.heap.size, tz, none⟩ = some (.int .i64 (-1)) := (by rw [blk_cell hblk]; simp [hto]); have f1 : w2.frozen? ⟨W1.heap.size, tz, none⟩ = false := blk_frozen hblk _; generalize hgf : W1.heap.size = gf at *; clear hgf; have SZ := As2.mk sz1; have hgl : gf < w2.heap.size := (by omega); have KB := As2.mk kb2; have KG := As2.mk kg2; have ltz : (tz : Int) < (n : Int) := (by omega); clear sz1 cx b1 hb kb kb2 kg2 hblk g0 g1))
  obtain ⟨W2, hW2⟩ : ∃ W2, W2 = ((((w2.setCell ⟨gf, tz, none⟩ (.int .i64 0)).alloc (.cells #[.slice (some ⟨gf, 0, none⟩) n n] 31)).alloc (.cells #[.int .i64 tz] 3)).alloc (.cells #[.slice (some ⟨w2.heap.size + 1, 0, none⟩) 1 1] 31)) := ⟨_, rfl⟩
  rw [← hW2]
  have hlt1 : w.heap.size + 1 ≤ w1.heap.size := hs1
  have BW := As2.mk (show Below w.heap.size w W2 by
    have b3 : Below w1.heap.size w2 W2 := by
      subst hW2
      exact ((((Below.refl _ w2).setCell (p := ⟨gf, tz, none⟩) (show w1.heap.size ≤ gf by have := SZ.out; omega) _).alloc (by simp; omega) _).alloc (by simp; omega) _).alloc (by simp; omega) _
    exact below_step (below_step ((Below.refl w.heap.size w).alloc (Nat.le_refl _) _) B1.out) (B2.out.trans b3))
  have fbs : (w2.setCell ⟨gf, tz, none⟩ (.int .i64 0)).heap[gf]? = some (.cells ((((List.replicate n (-1)).set tz 0).map (Value.int .i64)).toArray) 3 (0, 0)) := blk_put FB.out tz _ (by rw [List.setIfInBounds_toArray, List.map_set])
  have q0 : W2.heap[gf]? = some (.cells ((((List.replicate n (-1)).set tz 0).map (Value.int .i64)).toArray) 3 (0, 0)) := by
    subst hW2
    exact blk_alloc (blk_alloc (blk_alloc fbs _) _) _
  have q1 : W2.heap[w2.heap.size]? = some (.cells #[.slice (some ⟨gf, 0, none⟩) n n] 31) := by
    subst hW2
    have z := heap_alloc_new (w2.setCell ⟨gf, tz, none⟩ (.int .i64 0)) (.cells #[.slice (some ⟨gf, 0, none⟩) n n] 31)
    rw [show (w2.setCell ⟨gf, tz, none⟩ (.int .i64 0)).heap.size = w2.heap.size by simp] at z
    exact blk_alloc (blk_alloc z _) _
  have q2 : W2.heap[w2.heap.size + 1]? = some (.cells #[.int .i64 tz] 3) := by
    subst hW2
    have z := heap_alloc_new ((w2.setCell ⟨gf, tz, none⟩ (.int .i64 0)).alloc (.cells #[.slice (some ⟨gf, 0, none⟩) n n] 31)) (.cells #[.int .i64 tz] 3)
    rw [show ((w2.setCell ⟨gf, tz, none⟩ (.int .i64 0)).alloc (.cells #[.slice (some ⟨gf, 0, none⟩) n n] 31)).heap.size = w2.heap.size + 1 by simp] at z
    exact blk_alloc z _
  have q3 : W2.heap[w2.heap.size + 1 + 1]? = some (.cells #[.slice (some ⟨w2.heap.size + 1, 0, none⟩) 1 1] 31) := by
    subst hW2
    have z := heap_alloc_new (((w2.setCell ⟨gf, tz, none⟩ (.int .i64 0)).alloc (.cells #[.slice (some ⟨gf, 0, none⟩) n n] 31)).alloc (.cells #[.int .i64 tz] 3)) (.cells #[.slice (some ⟨w2.heap.size + 1, 0, none⟩) 1 1] 31)
    rw [show (((w2.setCell ⟨gf, tz, none⟩ (.int .i64 0)).alloc (.cells #[.slice (some ⟨gf, 0, none⟩) n n] 31)).alloc (.cells #[.int .i64 tz] 3)).heap.size = w2.heap.size + 1 + 1 by simp] at z
    exact z
  have b12 : Below w1.heap.size w1 W2 := by
    subst hW2
    exact B2.out.trans (((((Below.refl _ w2).setCell (p := ⟨gf, tz, none⟩) (show w1.heap.size ≤ gf by have := SZ.out; omega) _).alloc (by simp; omega) _).alloc (by simp; omega) _).alloc (by simp; omega) _)
  have q4 : W2.heap[w1.heap.size]? = some (.cells #[.int .i64 n, .slice Ab back.length cb] 24) := by
    subst hW2
    exact blk_alloc (blk_alloc (blk_alloc ((Below.heap_setCell w2 ⟨gf, tz, none⟩ _ w1.heap.size (show w1.heap.size ≠ gf by have := SZ.out; omega)).trans KB.out) _) _) _
  have hz2 : W2.heap.size = w2.heap.size + 3 := by subst hW2; simp
  have RB2 : Kd.R k53 53 W2 w.heap.size (fun k => some k = (Value.slice Ab back.length cb).ownBlock) (.slice Ab back.length cb) back := Kd.R_below (Kd.R_tight rfl (Kd.R_lower RB.out (by simp))) b12
  have RBlt := As2.mk (show ∀ k, some k = (Value.slice Ab back.length cb).ownBlock → k < w1.heap.size from fun k hk => Kd.R_lt RB.out k hk.symm)
  have ORD := As2.mk (show w.heap.size < w1.heap.size ∧ w1.heap.size < gf ∧ gf < w2.heap.size ∧ w2.heap.size + 2 < W2.heap.size by have := SZ.out; omega)
  have L0 := As2.mk (show DLp w n Ab cb back w1.heap.size w2.heap.size (w2.heap.size + 1 + 1) gf w.heap.size (fun k => k = w1.heap.size ∨ some k = (Value.slice Ab back.length cb).ownBlock) ((List.replicate n (-1)).set tz 0) [(tz : Int)] W2 from
    ⟨⟨by simpa using q1, q0, ⟨_, q3, Kd.Q_of_R (R_blkI (xs := [(tz : Int)]) q2 (by omega) ⟨fun hk => hk.elim (fun h => by omega) (fun h => by have := RBlt.out _ h; omega), by have := ORD.out; omega⟩ (by simp))⟩, fun k hk => hk.elim (fun h => by have := ORD.out; omega) (fun h => by have := RBlt.out _ h; have := ORD.out; omega), by omega⟩,
      q4, RB2, BW.out, .inl rfl, fun k hk => .inr hk⟩)
  clear q0 q1 q2 q3 q4 b12 RB2 fbs hW2 hz2 BW
  generalize hBf : w2.heap.size = Bf at *
  generalize hBb : w1.heap.size = Bb at *
  clear f0 f1 KB KG FB B2 hgl sz2 hs1 hlt1 hBf
  refine wpIn_loop_ghost (fun k a W => ∃ (ds : List Nat) (sk : List Int × List Int) (x8 x9 x21 x22 x23 x24 x25 x26 x27 x28 x29 x30 x31 x32 x33 x34 x35 x36 x37 x38 x39 x40 x41 x42 x43 x44 x45 x46 x47 x48 x49 : Value), a = { tmps := #[Value.agg #[Value.int IntKind.i64 ↑n, Value.slice A0_1 l0_1.length c0_1], Value.int IntKind.i64 ↑tz, Value.pointer (some ⟨w.heap.size, 0, none⟩), undef, Value.slice none 0 0, Value.pointer (some ⟨Bb, 0, none⟩), Value.pointer (some ⟨Bf, 0, none⟩), Value.pointer (some ⟨Bf + 1 + 1, 0, none⟩), x8, x9, Value.agg #[Value.int IntKind.i64 ↑n, Value.slice A0_1 l0_1.length c0_1], Value.agg #[Value.int IntKind.i64 ↑n, Value.slice Ab back.length cb], Value.slice (some ⟨Bb + 1, 0, none⟩) 1 1, Value.pointer (some ⟨w.heap.size, 0, none⟩), Value.int IntKind.i64 ↑n, Value.slice (some ⟨gf, 0, none⟩) n n, Value.slice (some ⟨gf, 0, none⟩) n n, Value.int IntKind.i64 ↑tz, Value.pointer (some ⟨gf, tz, none⟩), Value.int IntKind.i64 ↑tz, Value.slice (some ⟨Bf + 1, 0, none⟩) 1 1, x21, x22, x23, x24, x25, x26, x27, x28, x29, x30, x31, x32, x33, x34, x35, x36, x37, x38, x39, x40, x41, x42, x43, x44, x45, x46, x47, x48, x49, undef], defers := ds.map mk_ } ∧ As2 (distF back k sk = some ws) ∧ As2 (DLp w n Ab cb back Bb Bf (Bf + 1 + 1) gf w.heap.size (fun k => (k = Bb ∨ some k = (Value.slice Ab back.length cb).ownBlock) ∨ k ∈ ds) sk.1 sk.2 W) ∧ As2 (ds.Nodup ∧ ∀ D ∈ ds, w.heap.size ≤ D ∧ W.heap[D]? = some (.deferred (some []))) ∧ As2 (sk.1.length = n) ∧ As2 (∀ y ∈ sk.2, 0 ≤ y ∧ y < (n : Int))) 10000 ?start ?round
  case start => exact ⟨[], ((List.replicate n (-1)).set tz 0, [(tz : Int)]), _, _, _, _, _, _, _, _, _, _, _, _, _, _, _, _, _, _, _, _, _, _, _, _, _, _, _, _, _, _, _, rfl, H, ⟨L0.out.prot (fun k hk => .inl (hk.resolve_right (by simp))) (.inl (.inl rfl)) (fun k hk => .inl (.inr hk))⟩, ⟨List.nodup_nil, by simp⟩, ⟨by simp⟩, ⟨by intro y hy; obtain rfl : y = (tz : Int) := (by simpa using hy); exact ⟨Int.natCast_nonneg _, ltz⟩⟩⟩
  case round =>
    rintro k a W ⟨ds, ⟨far, wk⟩, x8, x9, x21, x22, x23, x24, x25, x26, x27, x28, x29, x30, x31, x32, x33, x34, x35, x36, x37, x38, x39, x40, x41, x42, x43, x44, x45, x46, x47, x48, x49, rfl, RF, LP, DS, LN, WK⟩
    clear L0 H HR
    have cf : W.cell? ⟨Bf, 0, none⟩ = some (.slice (some ⟨gf, 0, none⟩) far.length far.length) := (blk_cell LP.out.ds.hf 0).trans rfl
    obtain ⟨vw, hw1, hw2⟩ := LP.out.ds.hw
    have HW1 := As2.mk hw1
    have HW2 := As2.mk hw2
    have cw : W.cell? ⟨Bf + 1 + 1, 0, none⟩ = some vw := (blk_cell hw1 0).trans rfl
    have fw : W.frozen? ⟨Bf + 1 + 1, 0, none⟩ = false := blk_frozen hw1 0
    clear hw1 hw2
    obtain ⟨k, rfl⟩ : ∃ k', k = k' + 1 := by
      cases k with
      | zero => have := RF.out; simp [distF] at this
      | succ k => exact ⟨k, rfl⟩
    cases wk with
    | nil =>
      obtain ⟨Aw, cw0, rfl, hcw⟩ := Kd.Q_slice HW2.out
      have EW : far = ws := by
        have := RF.out
        simpa [distF] using this
      subst EW
      gi_wp2_with fail
      refine leaves_marks ds W DS.out.1 (fun D hD => (DS.out.2 D hD).2) ?_
      intro W' hW'
      have hb : Below w.heap.size W W' := hW'.below (fun D hD => (DS.out.2 D hD).1)
      have ngd : gf ∉ ds := fun hm => by
        have := (DS.out.2 gf hm).2
        rw [LP.out.ds.hc] at this
        cases this
      exact ⟨_, results_tmp rfl _ _ _, ⟨gf, rfl, by have := ORD.out; omega, (hW'.same gf ngd).trans LP.out.ds.hc, LP.out.bl.trans hb⟩⟩
    | cons v r =>
      have RF2 : r.length ≤ 100000 ∧ distF back k ((succL back v).foldl (bstep v) (far, r)) = some ws := by
        have := RF.out
        simp only [distF] at this
        by_cases h : r.length ≤ 100000
        · rw [if_pos h] at this; exact ⟨h, this⟩
        · rw [if_neg h] at this; cases this
      have RF3 := As2.mk RF2.2
      have hrl := RF2.1
      clear RF2 RF
      obtain ⟨vn, rfl⟩ := Int.eq_ofNat_of_zero_le (WK.out v (by simp)).1
      have hvn := As2.mk (WK.out (vn : Int) (by simp)).2
      obtain ⟨g, o, cap, rfl, hg1, hg2, hg3⟩ := Kd.Q_form HW2.out (by simp)
      obtain ⟨ad2, had, d0⟩ := Kd.at_int (Kd.Q_reads' HW2.out).2.2 (0 : Int) (by omega) (by simp)
      cases had
      have hrd : rd ((vn : Int) :: r) 0 = vn := rfl
      rw [hrd, Int.toNat_zero, show ((⟨g, o, none⟩ : Addr).add 0) = ⟨g, o, none⟩ from rfl] at d0
      have hcap := (Kd.Q_reads' HW2.out).2.1
      rw [List.length_cons] at cw hcap
      clear hg1 hg2 hg3 hrd
      have cb0 : W.cell? ⟨Bb, 0, none⟩ = some (.int .i64 n) := (blk_cell LP.out.bb 0).trans rfl
      have cb1 : W.cell? ⟨Bb, 1, none⟩ = some (.slice Ab back.length cb) := (blk_cell LP.out.bb 1).trans rfl
      have nbb : Bb ≠ Bf + 1 + 1 := by have := ORD.out; omega
      have nbb2 : Bf + 1 + 1 ≠ Bb := by have := ORD.out; omega
      have lt1 := blk_lt LP.out.bb
      have lt2 := blk_lt HW1.out
      obtain ⟨Aq, cq, hAq⟩ : ∃ (Aq : Option Addr) (cq : Nat), (∀ W' : World, (Instr.slice 31 (.slice (some ⟨g, o, none⟩) (r.length + 1) cap) (some (.int .i64 1)) none none).run Tryd.prog W' = .ok (.slice Aq r.length cq) W') ∧ Kd.Q (Kd.int .i64) 3 W w.heap.size (fun k => ¬ ((k = Bb ∨ some k = (Value.slice Ab back.length cb).ownBlock) ∨ k ∈ ds) ∧ k ≠ gf) (.slice Aq r.length cq) r := by
        refine ⟨if cap = 1 then some ⟨g, o, none⟩ else (some (⟨g, o, none⟩ : Addr)).map (·.add (1 * (Kd.int .i64).sz)), cap - 1, fun W' => ?_, Kd.Q_drop (k := 1) HW2.out (by simp)⟩
        rw [run_slice_l W' 31 (some ⟨g, o, none⟩) (r.length + 1) cap Tryd.underlying31 .i64 1 (by omega) (by omega)]
        simp [go_sem, Kd.int, Kd.scalar]
      obtain ⟨hsl, hq2⟩ := hAq
      have HQ2 := As2.mk hq2
      clear hq2
      gi_wp2_with (refine ⟨trivial, ?_⟩; gi_at_call 73; obtain ⟨W3, hW3⟩ : ∃ W3, W3 = (W.setCell ⟨Bf + 1 + 1, 0, none⟩ (.slice Aq r.length cq)).alloc (.cells #[.int .i64 vn] 3) := ⟨_, rfl⟩; rw [← hW3]; have sz3 : W3.heap.size = W.heap.size + 1 := (by subst hW3; simp); have L3 := As2.mk (show DLp w n Ab cb back Bb Bf (Bf + 1 + 1) gf w.heap.size (fun k => ((k = Bb ∨ some k = (Value.slice Ab back.length cb).ownBlock) ∨ k ∈ ds) ∨ k = W.heap.size) far r W3 from (by subst hW3; exact (LP.out.setq (by have := ORD.out; omega) HQ2.out).below (below_alloc (Below.refl _ _) _) (Nat.le_refl _) (fun k hk => hk.elim .inl (fun h => .inr ⟨by simp; omega, by simp; omega⟩)) (fun k hk => .inl hk))); have K8 := As2.mk (show W3.heap[W.heap.size]? = some (.cells #[.int .i64 vn] 3) from (by subst hW3; have z := heap_alloc_new (W.setCell ⟨Bf + 1 + 1, 0, none⟩ (.slice Aq r.length cq)) (.cells #[.int .i64 vn] 3); rwa [show (W.setCell ⟨Bf + 1 + 1, 0, none⟩ (.slice Aq r.length cq)).heap.size = W.heap.size by simp] at z)); have DS3 := As2.mk (show ∀ D ∈ ds, W3.heap[D]? = some (.deferred (some [])) from (by subst hW3; exact fun D hD => blk_alloc ((Below.heap_setCell W ⟨Bf + 1 + 1, 0, none⟩ _ D (LP.out.ds.pr D (.inr hD)).2.2).trans (DS.out.2 D hD).2) _)); clear hW3; refine (callsIn_wide.2 (next_calls (n : Int) (vn : Int) Ab cb back W3 (Kd.R_reads' L3.out.br).2.2 (by have := HL.out; omega) RR.out.1 RR.out.2.1)).mono ?_; rintro e W4 ⟨Ba, Bg2, Bv, i, rfl, hna, hrd, hb4, hge, hbk⟩; have NA := As2.mk hna.out; have RD := As2.mk hrd; have B4 := As2.mk hb4; have GE := As2.mk hge; have BK := As2.mk hbk.out; clear hna hrd hb4 hge hbk)
      obtain ⟨B8, hB8⟩ : ∃ B8, B8 = W.heap.size := ⟨_, rfl⟩
      rw [← hB8] at K8 L3 ⊢
      clear hB8 HQ2 d0 hsl cf cw fw cb0 cb1 lt1 lt2 hcap LP HW1 HW2
      have LT4 := As2.mk (show W3.heap.size ≤ Ba ∧ W3.heap.size ≤ Bg2 ∧ W3.heap.size ≤ Bv ∧ Ba < W4.heap.size ∧ Bg2 < W4.heap.size ∧ Bv < W4.heap.size from ⟨GE.out.1, GE.out.2.1, GE.out.2.2, blk_lt BK.out.1, blk_lt BK.out.2.1, blk_lt BK.out.2.2⟩)
      have L4 := As2.mk (show DLp w n Ab cb back Bb Bf (Bf + 1 + 1) gf w.heap.size (fun k => (((k = Bb ∨ some k = (Value.slice Ab back.length cb).ownBlock) ∨ k ∈ ds) ∨ k = B8) ∨ k = Ba ∨ k = Bg2 ∨ k = Bv) far r W4 from L3.out.below B4.out (Nat.le_refl _) (fun k hk => by
        rcases hk with h | h | h | h
        · exact .inl h
        · subst h; exact .inr ⟨LT4.out.1, LT4.out.2.2.2.1⟩
        · subst h; exact .inr ⟨LT4.out.2.1, LT4.out.2.2.2.2.1⟩
        · subst h; exact .inr ⟨LT4.out.2.2.1, LT4.out.2.2.2.2.2⟩) (fun k hk => .inl hk))
      have F4 := As2.mk (show W4.heap[B8]? = some (.cells #[.int .i64 vn] 3) from blk_below K8.out B4.out)
      have D4 := As2.mk (show ∀ D ∈ ds, W4.heap[D]? = some (.deferred (some [])) from fun D hD => blk_below (DS3.out D hD) B4.out)
      have hbg := As2.mk (show w.heap.size ≤ W4.heap.size from L4.out.bl.size)
      have PY := As2.mk (show ∀ y ∈ succL back (vn : Int), 0 ≤ y ∧ y < (n : Int) by
        intro y hy
        unfold succL at hy
        obtain ⟨x, hx, rfl⟩ := List.mem_map.1 hy
        have := within_iff.1 (RR.out.2.2 x (List.mem_filter.1 hx).1)
        exact ⟨this.2.2.1, this.2.2.2⟩)
      refine wpIn_rangeFunc_ownG (F := Fence.wide) (n := 3) rfl (by omega) (gf := 94) (lb := #[.pointer (some ⟨Ba, 0, none⟩), .pointer (some ⟨Bg2, 0, none⟩), .pointer (some ⟨Bv, 0, none⟩)]) rfl trivial (enters_of Tryd.func94 (by kernel_rfl) rfl)
        (next_stopsP 2 (by omega) Ba Bg2 Bv Ab cb back (vn : Int) i RR.out.1 NA.out (fun y => 0 ≤ y ∧ y < (n : Int)) ⟨(tz : Int), Int.natCast_nonneg _, ltz⟩ PY.out W4 RD.out) nextK_t nextK_b (Below.refl _ _) (fun _ => rfl)
        (fun (pre : List {y : Int // 0 ≤ y ∧ y < (n : Int)}) W => DLp w n Ab cb back Bb Bf (Bf + 1 + 1) gf w.heap.size (fun k => (((k = Bb ∨ some k = (Value.slice Ab back.length cb).ownBlock) ∨ k ∈ ds) ∨ k = B8) ∨ k = Ba ∨ k = Bg2 ∨ k = Bv) ((pre.map (·.1)).foldl (bstep (vn : Int)) (far, r)).1 ((pre.map (·.1)).foldl (bstep (vn : Int)) (far, r)).2 W ∧ (∀ D ∈ ds, W.heap[D]? = some (.deferred (some []))) ∧ NextRd Ba Bg2 Bv Ab cb back (vn : Int) i W ∧ W.heap[B8]? = some (.cells #[.int .i64 vn] 3))
        (fun _ _ _ => False) ?hI (fun _ _ _ _ _ hs _ _ => hs) ⟨L4.out, D4.out, RD.out, F4.out⟩
        (fun y => { tmps := #[Value.agg #[Value.int IntKind.i64 ↑n, Value.slice A0_1 l0_1.length c0_1], Value.int IntKind.i64 ↑tz, Value.pointer (some ⟨w.heap.size, 0, none⟩), undef, Value.slice none 0 0, Value.pointer (some ⟨Bb, 0, none⟩), Value.pointer (some ⟨Bf, 0, none⟩), Value.pointer (some ⟨Bf + 1 + 1, 0, none⟩), Value.pointer (some ⟨B8, 0, none⟩), Value.int .i64 y.1, Value.agg #[Value.int IntKind.i64 ↑n, Value.slice A0_1 l0_1.length c0_1], Value.agg #[Value.int IntKind.i64 ↑n, Value.slice Ab back.length cb], Value.slice (some ⟨Bb + 1, 0, none⟩) 1 1, Value.pointer (some ⟨w.heap.size, 0, none⟩), Value.int IntKind.i64 ↑n, Value.slice (some ⟨gf, 0, none⟩) n n, Value.slice (some ⟨gf, 0, none⟩) n n, Value.int IntKind.i64 ↑tz, Value.pointer (some ⟨gf, tz, none⟩), Value.int IntKind.i64 ↑tz, Value.slice (some ⟨Bf + 1, 0, none⟩) 1 1, Value.slice (some ⟨g, o, none⟩) (r.length + 1) cap, Value.int .i64 (↑r.length + 1), Value.bool true, Value.slice (some ⟨g, o, none⟩) (r.length + 1) cap, Value.pointer (some ⟨g, o, none⟩), Value.int .i64 ↑vn, Value.slice (some ⟨g, o, none⟩) (r.length + 1) cap, Value.slice Aq r.length cq, Value.agg #[Value.int .i64 ↑n, Value.slice Ab back.length cb], Value.int .i64 ↑vn, Value.func (Fn.func 94) #[] #[Value.pointer (some ⟨Ba, 0, none⟩), Value.pointer (some ⟨Bg2, 0, none⟩), Value.pointer (some ⟨Bv, 0, none⟩)], Value.int .i64 y.1, x33, x34, x35, x36, x37, x38, x39, x40, x41, x42, x43, x44, x45, x46, x47, x48, x49, undef], defers := [] }) ?assign ?body ?done ?stop
      case hI =>
        rintro pre X Y row ⟨h1, h2, h3, h4⟩ hg hr
        have lt : ∀ k0, k0 < W4.heap.size → some k0 ≠ row := fun k0 hk0 e => by
          have := (hr k0 e.symm).1
          omega
        exact ⟨h1.own hg (fun r e => ⟨Nat.le_trans hbg.out (hr r e).1, (hr r e).2⟩) (Nat.le_refl _), fun D hD => (hg.block D (blk_lt (h2 D hD)) (lt D (blk_lt (D4.out D hD)))).trans (h2 D hD), next_own (β := Unit) Ba Bg2 Bv Ab cb back (vn : Int) i () X Y row h3 hg (fun r e => (hr r e).2), (hg.block B8 (blk_lt h4) (lt B8 (blk_lt F4.out))).trans h4⟩
      case assign =>
        intro lp y W K hK
        gi_wp2
        exact hK
      case body =>
        rintro lp pre ⟨y, hy0, hy1⟩ W5 ⟨h1, h2, h3, h4⟩ hpl
        obtain ⟨yn, rfl⟩ := Int.eq_ofNat_of_zero_le hy0
        have ST := As2.mk (show ((pre ++ [(⟨(yn : Int), hy0, hy1⟩ : {y : Int // 0 ≤ y ∧ y < (n : Int)})]).map (·.1)).foldl (bstep (vn : Int)) (far, r) = bstep (vn : Int) ((pre.map (·.1)).foldl (bstep (vn : Int)) (far, r)) (yn : Int) by rw [List.map_append, List.foldl_append]; rfl)
        have hL := As2.mk ((bsteps_len (vn : Int) (pre.map (·.1)) (far, r)).trans LN.out)
        have hL2 := bsteps_wlen (vn : Int) (pre.map (·.1)) (far, r)
        have hsl : (succL back (vn : Int)).length ≤ 32768 := by
          unfold succL
          rw [List.length_map]
          exact Nat.le_trans (List.length_filter_le _ _) HL.out
        have hL3 := As2.mk (show ((pre.map (·.1)).foldl (bstep (vn : Int)) (far, r)).2.length ≤ 200000 by rw [List.length_map] at hL2; have : (far, r).2.length = r.length := rfl; omega)
        clear hL2 hsl
        generalize (pre.map (·.1)).foldl (bstep (vn : Int)) (far, r) = sj at h1 hL ST hL3
        obtain ⟨fj, wj⟩ := sj
        have cf : W5.cell? ⟨Bf, 0, none⟩ = some (.slice (some ⟨gf, 0, none⟩) fj.length fj.length) := (blk_cell h1.ds.hf 0).trans rfl
        have hyl : yn < fj.length := by have hl : fj.length = n := hL.out; omega
        have hvl : vn < fj.length := by have hl : fj.length = n := hL.out; have := hvn.out; omega
        have hyi : (yn : Int) < (fj.length : Int) := by omega
        have hvi : (vn : Int) < (fj.length : Int) := by omega
        have cy : W5.cell? ⟨gf, yn, none⟩ = some (.int .i64 (rd fj (yn : Int))) := by rw [blk_cell h1.ds.hc, rdI hyl]; simp [hyl]
        have cv : W5.cell? ⟨gf, vn, none⟩ = some (.int .i64 (rd fj (vn : Int))) := by rw [blk_cell h1.ds.hc, rdI hvl]; simp [hvl]
        have fy : W5.frozen? ⟨gf, yn, none⟩ = false := blk_frozen h1.ds.hc yn
        have c8 : W5.cell? ⟨B8, 0, none⟩ = some (.int .i64 vn) := (blk_cell h4 0).trans rfl
        have HH := As2.mk (And.intro h1 (And.intro h2 (And.intro h3 h4)))
        clear h1 h2 h3 h4
        generalize hdy : rd fj (yn : Int) = dy at cy
        generalize hdv : rd fj (vn : Int) = dv at cv
        have HDY := As2.mk hdy
        have HDV := As2.mk hdv
        clear hdy hdv hpl
        by_cases hneg : dy < 0
        · obtain ⟨vw, hw1, hw2⟩ := HH.out.1.ds.hw
          obtain ⟨Aw, cw0, rfl, hcw⟩ := Kd.Q_slice hw2
          have HW1 := As2.mk hw1
          have HW2 := As2.mk hw2
          have cw : W5.cell? ⟨Bf + 1 + 1, 0, none⟩ = some (.slice Aw wj.length cw0) := (blk_cell hw1 0).trans rfl
          have fw : W5.frozen? ⟨Bf + 1 + 1, 0, none⟩ = false := blk_frozen hw1 0
          have ngw : gf ≠ Bf + 1 + 1 := by have := ORD.out; omega
          have ngw2 : Bf + 1 + 1 ≠ gf := by have := ORD.out; omega
          have lt2 := blk_lt hw1
          clear hw1 hw2
          gi_wp2_with fail
          refine start_in (m := 9) (S := fun w' => w'.cell? ⟨Bf, 0, none⟩ = some (.slice (some ⟨gf, 0, none⟩) fj.length fj.length) ∧ w'.cell? ⟨B8, 0, none⟩ = some (.int .i64 vn) ∧ w'.cell? ⟨gf, vn, none⟩ = some (.int .i64 dv)) (ds := [8]) #[false, false, false, false, false, false, false, false, false] (fun ⟨_, _, h⟩ => h) (by kernel_rfl) (by kernel_rfl) rfl rfl ⟨cf, c8, cv⟩ (fun hHeld => ?_)
          refine take_ (i := 0) (N := (some 38)) (v := ?_) (a' := ?_) #[true, false, false, false, false, false, false, false, false] rfl rfl (by kernel_rfl) (fun _ _ _ h => h) (Or.inl ⟨by rfl, ?_⟩) hHeld ?_ ?_
          rotate_left
          · rintro w' ⟨s0, s1, s2⟩
            go_simp
            with_reducible rfl
          rotate_left
          · simp only [Act.put, List.setIfInBounds_toArray, List.set_cons_zero, List.set_cons_succ, i64_w, i32_w]
            rfl
          refine pure_ (i := 1) (N := (some 39)) (v := ?_) (a' := ?_) #[true, true, false, false, false, false, false, false, false] rfl rfl (by kernel_rfl) (fun _ _ _ h => h) (Or.inl ⟨by rfl, ?_⟩) ?_ ?_
          rotate_left
          · intro w'
            go_simp
            with_reducible rfl
          rotate_left
          · simp only [Act.put, List.setIfInBounds_toArray, List.set_cons_zero, List.set_cons_succ, i64_w, i32_w]
            rfl
          refine take_ (i := 2) (N := (some 40)) (v := ?_) (a' := ?_) #[true, true, true, false, false, false, false, false, false] rfl rfl (by kernel_rfl) (fun _ _ _ h => h) (Or.inl ⟨by rfl, ?_⟩) hHeld ?_ ?_
          rotate_left
          · rintro w' ⟨s0, s1, s2⟩
            go_simp
            with_reducible rfl
          rotate_left
          · simp only [Act.put, List.setIfInBounds_toArray, List.set_cons_zero, List.set_cons_succ, i64_w, i32_w]
            rfl
          refine take_ (i := 3) (N := (some 41)) (v := ?_) (a' := ?_) #[true, true, true, true, false, false, false, false, false] rfl rfl (by kernel_rfl) (fun _ _ _ h => h) (Or.inl ⟨by rfl, ?_⟩) hHeld ?_ ?_
          rotate_left
          · rintro w' ⟨s0, s1, s2⟩
            go_simp
            with_reducible rfl
          rotate_left
          · simp only [Act.put, List.setIfInBounds_toArray, List.set_cons_zero, List.set_cons_succ, i64_w, i32_w]
            rfl
          refine pure_ (i := 4) (N := (some 42)) (v := ?_) (a' := ?_) #[true, true, true, true, true, false, false, false, false] rfl rfl (by kernel_rfl) (fun _ _ _ h => h) (Or.inl ⟨by rfl, ?_⟩) ?_ ?_
          rotate_left
          · intro w'
            go_simp
            with_reducible rfl
          rotate_left
          · simp only [Act.put, List.setIfInBounds_toArray, List.set_cons_zero, List.set_cons_succ, i64_w, i32_w]
            rfl
          refine take_ (i := 5) (N := (some 43)) (v := ?_) (a' := ?_) #[true, true, true, true, true, true, false, false, false] rfl rfl (by kernel_rfl) (fun _ _ _ h => h) (Or.inl ⟨by rfl, ?_⟩) hHeld ?_ ?_
          rotate_left
          · rintro w' ⟨s0, s1, s2⟩
            go_simp
            with_reducible rfl
          rotate_left
          · simp only [Act.put, List.setIfInBounds_toArray, List.set_cons_zero, List.set_cons_succ, i64_w, i32_w]
            rfl
          refine pure_ (i := 6) (N := (some 44)) (v := ?_) (a' := ?_) #[true, true, true, true, true, true, true, false, false] rfl rfl (by kernel_rfl) (fun _ _ _ h => h) (Or.inl ⟨by rfl, ?_⟩) ?_ ?_
          rotate_left
          · intro w'
            go_simp
            with_reducible rfl
          rotate_left
          · simp only [Act.put, List.setIfInBounds_toArray, List.set_cons_zero, List.set_cons_succ, i64_w, i32_w]
            rfl
          refine pure_ (i := 7) (N := (some 45)) (v := ?_) (a' := ?_) #[true, true, true, true, true, true, true, true, false] rfl rfl (by kernel_rfl) (fun _ _ _ h => h) (Or.inl ⟨by rfl, ?_⟩) ?_ ?_
          rotate_left
          · intro w'
            go_simp
            with_reducible rfl
          rotate_left
          · simp only [Act.put, List.setIfInBounds_toArray, List.set_cons_zero, List.set_cons_succ, i64_w, i32_w]
            rfl
          refine last_ (i := 8) (N := none) #[true, true, true, true, true, true, true, true, true] rfl rfl (by kernel_rfl) (by decide) (fun K hK => ?_)
          refine skip_ (w1 := W5.drew.setCell ⟨gf, yn, none⟩ (.int .i64 (wrap64 (dv + 1)))) (by rfl) rfl ?run ?_
          case run =>
            clear hK hHeld
            go_simp
          refine hK.out _ _ ?_
          clear hK K hHeld
          refine done_ (by kernel_rfl) ?_
          rename_i K1 hK1
          refine (show K1 _ _ from hK1 _ _ ?_)
          clear hK1 K1
          refine region_in (fun ⟨_, _, h⟩ => h) (by kernel_rfl) ?_
          clear cf cy cv fy c8
          go_wp2_with ((with_reducible refine gate_builtin (b := .append) (xs := #[.tmp 46, .tmp 48]) rfl ?_); at_builtin; ((change wpList _ _ _ _ _ (World.alloc (World.setCell (World.drew W5) ⟨gf, yn, none⟩ (.int .i64 (wrap64 (dv + 1)))) (.cells #[.int .i64 yn] 3))); go_must (refine Kd.Q_append (Kd.int .i64) (w0 := W5) w.heap.size rfl (.tmp 46) (.tmp 48) 31 3 (.int .i64 0) 8 rfl Tryd.underlying31 infoI3 rfl (by decide) (by omega) (.slice Aw wj.length cw0) wj (yn : Int) [.int .i64 yn] (fun k => ¬ ((((k = Bb ∨ some k = (Value.slice Ab back.length cb).ownBlock) ∨ k ∈ ds) ∨ k = B8) ∨ k = Ba ∨ k = Bg2 ∨ k = Bv) ∧ k ≠ gf) (fun _ => False) ?a0 ?aX ?aP (fun _ hk => hk.elim) ?aF ?aO ?aB ?aS ?aL ?_); (case a0 => rfl); (case aX => go_must (first | exact rfl | exact congrArg (fun z => Value.slice (some ⟨z, 0, none⟩) 1 1) (by simp))); (case aP => exact rfl); (case aB => exact (pw_below_drewN (Below.refl _ W5) 1).setCell (p := ⟨gf, yn, none⟩) (show w.heap.size ≤ gf by have := ORD.out; omega) _); (case aF => intro k hk; have hk2 : W5.heap.size ≤ k := (by simpa using hk); exact ⟨fun hp => by have := (HH.out.1.ds.pr k hp).1; omega, by have := blk_lt HH.out.1.ds.hc; omega⟩); (case aO => exact Kd.Q_far (p := ⟨gf, yn, none⟩) (Kd.Q_drew HW2.out) (fun k hk => hk.2) _); (case aS => simp; exact HH.out.1.bl.size); (case aL => have : wj.length ≤ 200000 := hL3.out; omega); intro v1 w3 hF hb hg hat; obtain ⟨A1, c1, hv1, hc1⟩ := Kd.Q_slice hF; subst hv1; have F := As2.mk hF; have GR := As2.mk hg; have gw3 : w3.heap[Bf + 1 + 1]? = some (.cells #[.slice Aw wj.length cw0] 31) := (hg.block (Bf + 1 + 1) (by simpa using blk_lt HW1.out) (Kd.Q_ne HW2.out HW1.out (by decide))).trans ((Below.heap_setCell W5.drew ⟨gf, yn, none⟩ _ (Bf + 1 + 1) ngw2).trans HW1.out); have k3 : w3.cell? ⟨Bf + 1 + 1, 0, none⟩ = some (.slice Aw wj.length cw0) := (blk_cell gw3 0).trans rfl; have f3 := blk_frozen gw3 0; clear hF hb hg hat gw3))
          have EBs : bstep (vn : Int) (fj, wj) (yn : Int) = (fj.set yn (wrap64 (dv + 1)), wj ++ [(yn : Int)]) := by
            unfold bstep
            simp only
            rw [HDY.out, if_pos hneg, HDV.out]
            simp
          obtain ⟨E1, E2, E3, E4⟩ := dst_end HH.out.1.ds (show w.heap.size ≤ gf by have := ORD.out; omega) (show w.heap.size ≤ Bf + 1 + 1 by have := ORD.out; omega) HH.out.1.bl.size (show Drawn0 W5 W5.drew from ⟨1, rfl⟩) HW1.out HW2.out F.out GR.out
          have el : (wj ++ [(yn : Int)]).length = wj.length + 1 := by simp
          rw [el] at E1 E2 E3 E4
          have nr5 : NextRd Ba Bg2 Bv Ab cb back (vn : Int) i W5 → NextRd Ba Bg2 Bv Ab cb back (vn : Int) i (w3.setCell ⟨Bf + 1 + 1, 0, none⟩ (.slice A1 (wj.length + 1) c1)) := fun h => ⟨(World.cell?_of_block (E2 Ba (.inr (.inl rfl)))).trans h.ca, (World.cell?_of_block (E2 Bg2 (.inr (.inr (.inl rfl))))).trans h.cg, (World.cell?_of_block (E2 Bv (.inr (.inr (.inr rfl))))).trans h.cv, (Kd.R_reads' (HH.out.1.step E1 E2 E3).br).2.2⟩
          refine ⟨E4.from _, nr5, ?_, fun D hD => (E2 D (.inl (.inl (.inr hD)))).trans (HH.out.2.1 D hD), nr5 HH.out.2.2.1, (E2 B8 (.inl (.inr rfl))).trans HH.out.2.2.2⟩
          have := HH.out.1.step E1 E2 E3
          rw [ST.out, EBs]
          exact this
        · gi_wp2_with fail
          have EBs : bstep (vn : Int) (fj, wj) (yn : Int) = (fj, wj) := by
            unfold bstep
            simp only
            rw [HDY.out, if_neg (by omega)]
          refine ⟨⟨Nat.le_refl _, fun _ _ _ h _ => h⟩, fun h => h, ?_, HH.out.2.1, HH.out.2.2.1, HH.out.2.2.2⟩
          have := HH.out.1
          show DLp w n Ab cb back Bb Bf (Bf + 1 + 1) gf w.heap.size _ (((pre ++ [(⟨(yn : Int), hy0, hy1⟩ : {y : Int // 0 ≤ y ∧ y < (n : Int)})]).map (·.1)).foldl (bstep (vn : Int)) (far, r)).1 (((pre ++ [(⟨(yn : Int), hy0, hy1⟩ : {y : Int // 0 ≤ y ∧ y < (n : Int)})]).map (·.1)).foldl (bstep (vn : Int)) (far, r)).2 W5
          rw [ST.out, EBs]
          exact this
      case done =>
        rintro D ys W5 hD hys ⟨h1, h2, h3, h4⟩ hKD
        have hys2 : ys.map (·.1) = succL back (vn : Int) := hys
        rw [hys2] at h1
        have hnd : D ∉ ds := fun hm => by have := blk_lt (D4.out D hm); omega
        refine ⟨k, Nat.lt_succ_self k, D :: ds, _, _, _, _, _, _, _, _, _, _, _, _, _, _, _, _, _, _, _, _, _, _, _, _, _, _, _, _, _, _, _, _, rfl, RF3, ⟨h1.prot (fun k0 hk0 => ?_) (.inl (.inl rfl)) (fun k0 hk0 => .inl (.inr hk0))⟩, ⟨List.nodup_cons.2 ⟨hnd, DS.out.1⟩, fun D' hD' => ?_⟩, ⟨(bsteps_len (vn : Int) (succL back (vn : Int)) (far, r)).trans LN.out⟩, ⟨fun y hy => ?_⟩⟩
        · rcases hk0 with h | h
          · exact .inl (.inl (.inl (.inl h)))
          · rcases List.mem_cons.1 h with rfl | h
            · exact .inr ⟨_, hKD, rfl⟩
            · exact .inl (.inl (.inl (.inr h)))
        · rcases List.mem_cons.1 hD' with rfl | h
          · exact ⟨Nat.le_trans hbg.out hD, hKD⟩
          · exact ⟨(DS.out.2 D' h).1, h2 D' h⟩
        · rcases bsteps_mem (vn : Int) _ _ y hy with h | h
          · exact WK.out y (List.mem_cons_of_mem _ h)
          · exact PY.out y h
      case stop =>
        rintro D c pre W5 _ _ h _
        exact h.elim
theorem distances_calls (n tz : Nat) (A0_1 : Option Addr) (c0_1 : Nat) (l0_1 : List S53) (ws : List Int) (w : World) (hr0_1 : Kd.C k53 w A0_1 l0_1.length l0_1) (hc0_1 : l0_1.length ≤ c0_1)
    (hv : Valid n l0_1) (hto : tz < n) (h : distF (sortE (l0_1.map swapE)) 10000 ((List.replicate n (-1)).set tz 0, [(tz : Int)]) = some ws) :
    Calls Tryd.prog 76 #[.agg #[.int .i64 n, .slice A0_1 l0_1.length c0_1], .int .i64 tz] w fun e w' => ∃ g : Nat, e = .returned (.slice (some ⟨g, 0, none⟩) ws.length ws.length) ∧ w.heap.size ≤ g ∧ w'.heap[g]? = some (.cells ((ws.map (Value.int .i64)).toArray) 3 (0, 0)) ∧ Below w.heap.size w w' :=
  callsIn_wide.1 (distances_yes n tz A0_1 c0_1 l0_1 ws w hr0_1 hc0_1 hv hto h)
theorem distF_len (back : List S53) : ∀ (k : Nat) (s : List Int × List Int) (ws : List Int), distF back k s = some ws → ws.length = s.1.length
  | 0, _, _, h => by simp [distF] at h
  | k + 1, (far, []), ws, h => by
    simp only [distF, Option.some.injEq] at h
    rw [← h]
  | k + 1, (far, v :: r), ws, h => by
    simp only [distF] at h
    split at h
    · exact (distF_len back k _ ws h).trans (bsteps_len v _ _)
    · cases h
end Go.Proofs.YtfgbkklhjocmjaaDoor.Xq
namespace Go.Proofs.YtfgbkklhjocmjaaDoor.Xq
open Go.RowKit Go.Proofs.YtfgbkklhjocmjaaDoorW.PrintLast
variable {n : Nat} {P : Program} {ops : Array Oper} {Q : Exit → Act → World → Prop}
theorem opW_of_wp {o : Oper} {a : Act} {w : World} {next : Act → World → Prop} (hd : ∀ c, o.op ≠ .defer c) (h : o.wp P a w next Q) : o.wpIn (Fence.wide) n P a w next Q := by
  refine ⟨fun _ _ => trivial, ?_⟩
  rw [Oper.semAt_eq _ _ _ hd]
  unfold Oper.wp at h
  generalize (execOp a.eval o).run P w = r at h
  cases r with
  | ok nx w' =>
    cases nx with
    | value v => exact h
    | skip => exact h
    | defer d => exact h
    | enter f args => exact ⟨fun hs => by simp [Fence.wide] at hs, callsIn_wide.2 h⟩
    | row row args =>
      refine ⟨fun hs => by simp [Fence.wide] at hs, fun c cs _ => ?_⟩
      obtain ⟨v, w', r, s⟩ := h c cs
      exact ⟨v, w', r, stepsIn_wide.2 s⟩
    | round l f tmps assign body => exact h.elim
    | _ => exact h.elim
  | halt hl w' =>
    cases hl with
    | panic v => exact h
    | _ => exact h.elim
theorem wpListW_of_wpList (hno : ¬ LetsOut Q) : ∀ (l : List Oper) (a : Act) (w : World), (∀ o ∈ l, ∀ c, o.op ≠ .defer c) → wpList P ops Q l a w → wpListIn (Fence.wide) n P ops Q l a w
  | [], _, _, _, h => h
  | o :: rest, a, w, hd, h => by
    unfold wpList at h
    unfold wpListIn
    by_cases hw : Region.wanted o (yielded ops a.tmps) = true
    · rw [if_pos hw] at h ⊢
      rcases h with h | h
      · refine Oper.wpIn_mono (fun a' w' h' => wpListW_of_wpList hno rest a' w' (fun o' ho' => hd o' (by simp [ho'])) h') (opW_of_wp (hd o (by simp)) h)
      · exact absurd h.2 hno
    · rw [if_neg hw] at h ⊢
      exact ⟨fun _ _ => trivial, wpListW_of_wpList hno rest _ _ (fun o' ho' => hd o' (by simp [ho'])) h⟩
theorem region_w {id : Nat} {a : Act} {w : World} {l : List Oper} (hno : ¬ LetsOut Q) (hd : noDefer l.toArray = true) (h : wpList P l.toArray Q l a w) : (Code.region id l.toArray false).wpIn (Fence.wide) n P Q a w :=
  wpIn_region_lit (wpListW_of_wpList hno l a w (fun o ho => by
    obtain ⟨i, hi, rfl⟩ := List.mem_iff_getElem.1 ho
    exact noDefer_at (i := i) hd (by simp [hi])) h)
end Go.Proofs.YtfgbkklhjocmjaaDoor.Xq
namespace Go.Proofs.YtfgbkklhjocmjaaDoor.Xq
open Go.RowKit Go.Shelf Go.Proofs.YtfgbkklhjocmjaaDoorW.PrintWords Go.Proofs.YtfgbkklhjocmjaaDoorW.PrintLast Go.Proofs.YtfgbkklhjocmjaaDoor.Gv
attribute [local go_sem] Oper.semAt_some
def pstep (far : List Int) (ss : List Int) (v : Int) : Int := match ss.find? (fun y => rd far y == wrap64 (rd far v - 1)) with
  | some y => y
  | none => v
def pathF (l : List S53) (far : List Int) (tz : Int) : Nat → Int × List Int → Option (List Int)
  | 0, _ => none
  | k + 1, s => if s.1 = tz then some s.2 else pathF l far tz k (pstep far (succL l s.1) s.1, s.2 ++ [pstep far (succL l s.1) s.1])
def graph_Path.f (a0_0 : Int) (l0_1 : List S53) (a1 a2 : Int) : Option (List Int × Bool) :=
  if (0 ≤ a1 ∧ a1 < a0_0 ∧ chk a0_0 l0_1 = 0) ∧ 0 ≤ a2 ∧ a2 < a0_0 then
    (distF (sortE (l0_1.map swapE)) 10000 ((List.replicate a0_0.toNat (-1)).set a2.toNat 0, [a2])).bind fun far =>
      if rd far a1 < 0 then some ([], false) else (pathF l0_1 far a2 10000 (a1, [a1])).map fun p => (p, true)
  else some ([], false)
set_option maxRecDepth 100000 in
set_option maxHeartbeats 1000000 in
theorem graph_Path.no (a0_0 : Int) (A0_1 : Option Addr) (c0_1 : Nat) (l0_1 : List S53) (a1 a2 : Int) (w : World) (hr0_1 : Kd.C k53 w A0_1 l0_1.length l0_1) (hc0_1 : l0_1.length ≤ c0_1) (h : ¬ ((0 ≤ a1 ∧ a1 < a0_0 ∧ chk a0_0 l0_1 = 0) ∧ 0 ≤ a2 ∧ a2 < a0_0)) :
    Calls Tryd.prog 40 #[.agg #[.int .i64 a0_0, .slice A0_1 l0_1.length c0_1], .int .i64 a1, .int .i64 a2] w fun e w' => ∃ v0_ : Value, e = .returned (.tuple #[v0_, .bool false]) ∧ Kd.R (Kd.int .i64) 3 w' w.heap.size (fun _ => True) v0_ [] ∧ Below w.heap.size w w' := by
  have R0 := As2.mk hr0_1
  have HF := As2.mk (usable_f a0_0 l0_1 a1 _ (Nat.le_refl _))
  clear hr0_1
  by_cases hu : 0 ≤ a1 ∧ a1 < a0_0 ∧ chk a0_0 l0_1 = 0
  · rw [decide_eq_true hu] at HF
    have h2 : ¬ (0 ≤ a2 ∧ a2 < a0_0) := fun h3 => h ⟨hu, h3⟩
    clear h hu
    go_enter Tryd.func40, Tryd.ntmps40
    by_cases h0 : a2 < 0
    · go_wp2_with (go_at_call 75; refine (graph_usable.calls _ a0_0 A0_1 c0_1 l0_1 a1 true _ ?hr hc0_1 HF.out).mono ?_; (case hr => exact Kd.C_alloc R0.out _); rintro e w1 ⟨rfl, hb⟩; have B1 := As2.mk hb; clear hb)
      go_ret2
      exact ⟨_, rfl, Kd.R_nil _ _ _ _ _, below_step ((Below.refl _ _).alloc (Nat.le_refl _) _) B1.out⟩
    · have h1 : a0_0 ≤ a2 := by omega
      go_wp2_with (go_at_call 75; refine (graph_usable.calls _ a0_0 A0_1 c0_1 l0_1 a1 true _ ?hr hc0_1 HF.out).mono ?_; (case hr => exact Kd.C_alloc R0.out _); rintro e w1 ⟨rfl, hb⟩; have B1 := As2.mk hb; clear hb; have kk := blk_below (heap_alloc_new w (.cells #[.int .i64 a0_0, .slice A0_1 l0_1.length c0_1] 24)) B1.out; have g0 : w1.cell? ⟨w.heap.size, 0, none⟩ = some (.int .i64 a0_0) := (blk_cell kk 0).trans rfl; clear kk)
      go_ret2
      exact ⟨_, rfl, Kd.R_nil _ _ _ _ _, below_step ((Below.refl _ _).alloc (Nat.le_refl _) _) B1.out⟩
  · rw [decide_eq_false hu] at HF
    clear h hu
    go_enter Tryd.func40, Tryd.ntmps40
    go_wp2_with (go_at_call 75; refine (graph_usable.calls _ a0_0 A0_1 c0_1 l0_1 a1 false _ ?hr hc0_1 HF.out).mono ?_; (case hr => exact Kd.C_alloc R0.out _); rintro e w1 ⟨rfl, hb⟩; have B1 := As2.mk hb; clear hb)
    go_ret2
    exact ⟨_, rfl, Kd.R_nil _ _ _ _ _, below_step ((Below.refl _ _).alloc (Nat.le_refl _) _) B1.out⟩
structure PSt (w : World) (n : Nat) (A0 : Option Addr) (c0 : Nat) (l0 : List S53) (far : List Int) (Bg Bf gf : Nat) (Pr : Nat → Prop) (vb : Nat) (v : Int) (vp : Value) (p : List Int) (W : World) : Prop where
  hg : W.heap[Bg]? = some (.cells #[.int .i64 n, .slice A0 l0.length c0] 24)
  hf : W.heap[Bf]? = some (.cells #[.slice (some ⟨gf, 0, none⟩) far.length far.length] 31)
  hc : W.heap[gf]? = some (.cells ((far.map (Value.int .i64)).toArray) 3 (0, 0))
  hv : W.heap[vb]? = some (.cells #[.int .i64 v] 3)
  row : Kd.R (Kd.int .i64) 3 W w.heap.size (fun k => ¬ Pr k) vp p
  pr : ∀ k, Pr k → k < W.heap.size
  p1 : Pr gf
  p2 : Pr vb
  bl : Below w.heap.size w W
  nv : vb ≠ gf
section
variable {w : World} {n : Nat} {A0 : Option Addr} {c0 : Nat} {l0 : List S53} {far : List Int} {Bg Bf gf vb : Nat} {v : Int} {vp : Value} {p : List Int} {Pr Pr' : Nat → Prop} {W W' : World}
theorem PSt.own (h : PSt w n A0 c0 l0 far Bg Bf gf Pr vb v vp p W) {row : Option Nat} (hg : W.grownBy W' row) (hr : ∀ r, row = some r → w.heap.size ≤ r ∧ ∃ o : Obj, W.heap[r]? = some o ∧ o.isCells = false) : PSt w n A0 c0 l0 far Bg Bf gf Pr vb v vp p W' := by
  have hr2 := fun r e => (hr r e).2
  exact ⟨(hg.block _ (blk_lt h.hg) (cells_ne hr2 h.hg)).trans h.hg, (hg.block _ (blk_lt h.hf) (cells_ne hr2 h.hf)).trans h.hf, (hg.block _ (blk_lt h.hc) (cells_ne hr2 h.hc)).trans h.hc, (hg.block _ (blk_lt h.hv) (cells_ne hr2 h.hv)).trans h.hv, Kd.R_grown2 h.row rfl hg (fun k e => by
    obtain ⟨_, o, ho, hc⟩ := hr k e
    exact own_ne h.row ho hc), fun k hk => Nat.lt_of_lt_of_le (h.pr k hk) hg.size, h.p1, h.p2, h.bl.grown hg h.bl.size (fun r e => (hr r e).1), h.nv⟩
theorem PSt.below (h : PSt w n A0 c0 l0 far Bg Bf gf Pr vb v vp p W) (hb : Below W.heap.size W W') (hp : ∀ k, Pr' k → Pr k ∨ (W.heap.size ≤ k ∧ k < W'.heap.size)) (hq : ∀ k, Pr k → Pr' k) : PSt w n A0 c0 l0 far Bg Bf gf Pr' vb v vp p W' :=
  ⟨blk_below h.hg hb, blk_below h.hf hb, blk_below h.hc hb, blk_below h.hv hb, Kd.R_below (Kd.R_reok rfl h.row (fun k hk hp' => by
    rcases hp k hp' with h3 | h3
    · exact h.row.1 k hk h3
    · have := Kd.R_lt h.row k hk; omega)) hb, fun k hk => by
    rcases hp k hk with h3 | h3
    · exact Nat.lt_of_lt_of_le (h.pr k h3) hb.size
    · exact h3.2, hq _ h.p1, hq _ h.p2, h.bl.trans (hb.mono h.bl.size), h.nv⟩
theorem PSt.prot (h : PSt w n A0 c0 l0 far Bg Bf gf Pr vb v vp p W) (hp : ∀ k, Pr' k → Pr k ∨ ∃ o : Obj, W.heap[k]? = some o ∧ o.isCells = false) (p1 : Pr' gf) (p2 : Pr' vb) : PSt w n A0 c0 l0 far Bg Bf gf Pr' vb v vp p W :=
  ⟨h.hg, h.hf, h.hc, h.hv, Kd.R_reok rfl h.row (fun k hk hp' => by
    rcases hp k hp' with h3 | ⟨o, ho, hc⟩
    · exact h.row.1 k hk h3
    · exact own_ne h.row ho hc hk.symm), fun k hk => by
    rcases hp k hk with h3 | ⟨o, ho, hc⟩
    · exact h.pr k h3
    · exact blk_lt ho, p1, p2, h.bl, h.nv⟩
theorem PSt.setv (h : PSt w n A0 c0 l0 far Bg Bf gf Pr vb v vp p W) (hb : w.heap.size ≤ vb) (y : Int) : PSt w n A0 c0 l0 far Bg Bf gf Pr vb y vp p (W.setCell ⟨vb, 0, none⟩ (.int .i64 y)) := by
  have oth : ∀ k, k ≠ vb → (W.setCell ⟨vb, 0, none⟩ (.int .i64 y)).heap[k]? = W.heap[k]? := fun k hk => Below.heap_setCell W ⟨vb, 0, none⟩ _ k hk
  have n1 : Bg ≠ vb := by intro e; have h3 := h.hg; rw [e, h.hv] at h3; simp at h3
  have n2 : Bf ≠ vb := by intro e; have h3 := h.hf; rw [e, h.hv] at h3; simp at h3
  exact ⟨(oth _ n1).trans h.hg, (oth _ n2).trans h.hf, (oth _ h.nv.symm).trans h.hc, blk_put h.hv 0 _ rfl, Kd.R_far h.row (p := ⟨vb, 0, none⟩) (fun k hk e => hk (by rw [e]; exact h.p2)) _, fun k hk => by simpa using h.pr k hk, h.p1, h.p2, h.bl.setCell (p := ⟨vb, 0, none⟩) hb _, h.nv⟩
theorem PSt.append (h : PSt w n A0 c0 l0 far Bg Bf gf Pr vb v vp p W) {v1 : Value} {x : Int} {w3 : World} (hg : W.grownBy w3 vp.ownBlock) (hF : Kd.R (Kd.int .i64) 3 w3 w.heap.size (fun k => ¬ Pr k) v1 (p ++ [x])) : PSt w n A0 c0 l0 far Bg Bf gf Pr vb v v1 (p ++ [x]) w3 := by
  have np : ∀ k, Pr k → some k ≠ vp.ownBlock := fun k hk e => h.row.1 k e.symm hk
  exact ⟨(hg.block _ (blk_lt h.hg) (Kd.R_ne h.row h.hg (by decide))).trans h.hg, (hg.block _ (blk_lt h.hf) (Kd.R_ne h.row h.hf (by decide))).trans h.hf, (hg.block _ (blk_lt h.hc) (np _ h.p1)).trans h.hc, (hg.block _ (blk_lt h.hv) (np _ h.p2)).trans h.hv, hF, fun k hk => Nat.lt_of_lt_of_le (h.pr k hk) hg.size, h.p1, h.p2, h.bl.grown hg h.bl.size (fun r e => Kd.R_base h.row r e), h.nv⟩
theorem PSt.newbox (h : PSt w n A0 c0 l0 far Bg Bf gf Pr vb v vp p W) (x : Int) : PSt w n A0 c0 l0 far Bg Bf gf (fun k => Pr k ∨ k = W.heap.size) W.heap.size x vp p (W.alloc (.cells #[.int .i64 x] 3)) := by
  have h2 := h.below (Pr' := fun k => Pr k ∨ k = W.heap.size) (below_alloc (Below.refl W.heap.size W) (.cells #[.int .i64 x] 3)) (fun k hk => hk.elim .inl (fun e => .inr ⟨by omega, by simp; omega⟩)) (fun k hk => .inl hk)
  exact ⟨h2.hg, h2.hf, h2.hc, heap_alloc_new W _, h2.row, h2.pr, h2.p1, .inr rfl, h2.bl, by have := blk_lt h.hc; omega⟩
theorem PSt.drew (h : PSt w n A0 c0 l0 far Bg Bf gf Pr vb v vp p W) (nd : Nat) : PSt w n A0 c0 l0 far Bg Bf gf Pr vb v vp p (W.drewN nd) :=
  h.below (pw_below_drewN (Below.refl _ _) nd) (fun k hk => .inl hk) (fun k hk => hk)
end
theorem pstep_hit {far l q : List Int} {v y : Int} (h : ∀ x ∈ l, ¬ rd far x = wrap64 (rd far v - 1)) (hy : rd far y = wrap64 (rd far v - 1)) (hp : (l ++ [y]) <+: q) : pstep far q v = y := by
  obtain ⟨t, rfl⟩ := hp
  unfold pstep
  rw [List.append_assoc, List.find?_append, List.find?_eq_none.2 (fun x hx => by simpa using h x hx)]
  simp [hy]
set_option maxRecDepth 100000 in
set_option maxHeartbeats 4000000 in
theorem graph_Path.yes (n fr tz : Nat) (A0_1 : Option Addr) (c0_1 : Nat) (l0_1 : List S53) (far : List Int) (r1 : List Int) (r2 : Bool) (w : World) (hr0_1 : Kd.C k53 w A0_1 l0_1.length l0_1) (hc0_1 : l0_1.length ≤ c0_1)
    (hv : Valid n l0_1) (hfr : fr < n) (hto : tz < n) (hd : distF (sortE (l0_1.map swapE)) 10000 ((List.replicate n (-1)).set tz 0, [(tz : Int)]) = some far) (hfl : far.length = n)
    (h : (if rd far (fr : Int) < 0 then some ([], false) else (pathF l0_1 far (tz : Int) 10000 ((fr : Int), [(fr : Int)])).map fun p => (p, true)) = some (r1, r2)) :
    CallsIn Fence.wide 3 Tryd.prog 40 #[.agg #[.int .i64 n, .slice A0_1 l0_1.length c0_1], .int .i64 fr, .int .i64 tz] w fun e w' => ∃ v0_ : Value, e = .returned (.tuple #[v0_, .bool r2]) ∧ Kd.R (Kd.int .i64) 3 w' w.heap.size (fun _ => True) v0_ r1 ∧ Below w.heap.size w w' := by
  have R0 := As2.mk hr0_1
  have HV := As2.mk hv
  have H := As2.mk h
  have HD := As2.mk hd
  have HFL := As2.mk hfl
  have HU := As2.mk (show graph_usable.f (l0_1.length + 4) (n : Int) l0_1 (fr : Int) = some true by
    rw [usable_f _ _ _ _ (Nat.le_refl _), decide_eq_true]
    exact ⟨Int.natCast_nonneg _, by omega, (chk_zero _ _).2 hv⟩)
  have htl : (tz : Int) < (n : Int) := by omega
  have hfli : (fr : Int) < (far.length : Int) := by omega
  have hfln : fr < far.length := by omega
  clear hr0_1 hv h hd hfl
  refine callsIn_of_wp_marks Tryd.func40 rfl trivial ?_ rfl
  simp only [Tryd.ntmps40, List.size_toArray, List.length_cons, List.length_nil, Nat.reduceAdd, Nat.reduceSub, Array.replicate_succ, Array.replicate_zero, List.push_toArray, List.append_toArray, List.nil_append, List.cons_append]
  gi_wp2_with (first | (refine ⟨trivial, ?_⟩; gi_at_call 75; refine (callsIn_wide.2 (graph_usable.calls _ (n : Int) A0_1 c0_1 l0_1 (fr : Int) true _ ?hr hc0_1 HU.out)).mono ?_; (case hr => exact Kd.C_alloc R0.out _); rintro e w1 ⟨rfl, hb⟩; have B1 := As2.mk hb; clear hb; have kk := blk_below (heap_alloc_new w (.cells #[.int .i64 n, .slice A0_1 l0_1.length c0_1] 24)) B1.out; have g0 : w1.cell? ⟨w.heap.size, 0, none⟩ = some (.int .i64 n) := (blk_cell kk 0).trans rfl; have g1 : w1.cell? ⟨w.heap.size, 1, none⟩ = some (.slice A0_1 l0_1.length c0_1) := (blk_cell kk 1).trans rfl; have KK := As2.mk kk; have hs1 := blk_lt kk; clear kk) | (refine ⟨trivial, ?_⟩; gi_at_call 76; have BB := As2.mk (below_step ((Below.refl w.heap.size w).alloc (Nat.le_refl _) (.cells #[.int .i64 n, .slice A0_1 l0_1.length c0_1] 24)) B1.out); refine (callsIn_wide.2 (distances_calls n tz A0_1 c0_1 l0_1 far w1 (Kd.C_below R0.out BB.out) hc0_1 HV.out hto HD.out)).mono ?_; rintro e w2 ⟨gf, rfl, hgf, hgb, hb⟩; have B2 := As2.mk hb; have GF := As2.mk hgb; have hgl := blk_lt hgb; have f0 : w2.cell? ⟨gf, fr, none⟩ = some (.int .i64 (rd far (fr : Int))) := (by rw [blk_cell hgb, rdI hfln]; simp [hfln]); generalize hq : rd far (fr : Int) = df at f0 H; have HDF := As2.mk hq; have KK2 := As2.mk (blk_below KK.out hb); clear g0 g1 hb hgb hq))
  · have hneg : df < 0 := by assumption
    have H2 := H.out
    rw [if_pos hneg] at H2
    obtain ⟨rfl, rfl⟩ : [] = r1 ∧ false = r2 := by simpa using H2
    refine leaves_marks [] _ List.nodup_nil (by simp) ?_
    intro W' hW'
    have hb : Below w.heap.size _ W' := hW'.below (by simp)
    refine ⟨_, results_tmp2 rfl _ _ _, ⟨_, rfl, Kd.R_nil _ _ _ _ _, ?_⟩⟩
    exact ((below_step BB.out B2.out).alloc (Nat.le_trans BB.out.size B2.out.size) _).trans hb
  · have hneg : ¬ df < 0 := by omega
    have H2 := H.out
    rw [if_neg hneg] at H2
    obtain ⟨rp, hrp, hrp2⟩ := Option.map_eq_some_iff.1 H2
    obtain ⟨rfl, rfl⟩ : rp = r1 ∧ true = r2 := by simpa using hrp2
    have HP := As2.mk hrp
    clear H2 H hrp hrp2
    obtain ⟨W2, hW2⟩ : ∃ W2, W2 = ((w2.alloc (.cells #[.slice (some ⟨gf, 0, none⟩) far.length far.length] 31)).alloc (.cells #[.int .i64 fr] 3)).alloc (.cells #[.int .i64 fr] 3) := ⟨_, rfl⟩
    rw [← hW2]
    have bw2 : w.heap.size ≤ w2.heap.size := Nat.le_trans BB.out.size B2.out.size
    have q1 : W2.heap[w2.heap.size]? = some (.cells #[.slice (some ⟨gf, 0, none⟩) far.length far.length] 31) := by
      subst hW2
      exact blk_alloc (blk_alloc (heap_alloc_new w2 _) _) _
    have q2 : W2.heap[w2.heap.size + 1]? = some (.cells #[.int .i64 fr] 3) := by
      subst hW2
      have z := heap_alloc_new (w2.alloc (.cells #[.slice (some ⟨gf, 0, none⟩) far.length far.length] 31)) (.cells #[.int .i64 fr] 3)
      rw [World.size_alloc] at z
      exact blk_alloc z _
    have q3 : W2.heap[w2.heap.size + 1 + 1]? = some (.cells #[.int .i64 fr] 3) := by
      subst hW2
      have z := heap_alloc_new ((w2.alloc (.cells #[.slice (some ⟨gf, 0, none⟩) far.length far.length] 31)).alloc (.cells #[.int .i64 fr] 3)) (.cells #[.int .i64 fr] 3)
      rw [World.size_alloc, World.size_alloc] at z
      exact z
    have b2 : Below w2.heap.size w2 W2 := by
      subst hW2
      exact (((Below.refl _ w2).alloc (Nat.le_refl _) _).alloc (by simp) _).alloc (by simp; omega) _
    have hz2 : W2.heap.size = w2.heap.size + 3 := by subst hW2; simp
    have BW := As2.mk (show Below w.heap.size w W2 from (below_step BB.out B2.out).trans (b2.mono bw2))
    have kg2 := blk_below KK2.out b2
    have kf2 := blk_below GF.out b2
    have L0 := As2.mk (show PSt w n A0_1 c0_1 l0_1 far w.heap.size w2.heap.size gf (fun k => k = gf ∨ k = w2.heap.size + 1 + 1) (w2.heap.size + 1 + 1) (fr : Int) (.slice (some ⟨w2.heap.size + 1, 0, none⟩) 1 1) [(fr : Int)] W2 from
      ⟨kg2, q1, kf2, q3, R_blkI (xs := [(fr : Int)]) q2 (by omega) (fun h => by rcases h with h | h <;> omega) (by simp), fun k hk => by rcases hk with h | h <;> omega, .inl rfl, .inr rfl, BW.out, by omega⟩)
    have ORD := As2.mk (show w.heap.size ≤ gf ∧ gf < w2.heap.size ∧ w.heap.size ≤ w2.heap.size from ⟨Nat.le_trans BB.out.size hgf, hgl, bw2⟩)
    clear q1 q2 q3 kg2 kf2 hW2 b2 hz2 bw2 hgl hgf f0 KK KK2 GF BB B1 B2 BW hfli hfln hs1
    generalize w2.heap.size = Bf at *
    refine wpIn_loop_ghost (fun k a W => ∃ (ds : List Nat) (vb v : Nat) (p : List Int) (vp x10 x17 x18 x19 x24 x32 x36 x37 x38 x39 x40 x41 x42 x43 x44 x45 x46 x47 x48 x49 x50 x51 x52 x53 x54 x55 x56 x57 x58 : Value), a = { tmps := #[Value.agg #[Value.int IntKind.i64 ↑n, Value.slice A0_1 l0_1.length c0_1], Value.int IntKind.i64 ↑fr, Value.int IntKind.i64 ↑tz, Value.pointer (some ⟨w.heap.size, 0, none⟩), undef, undef, vp, Value.bool false, Value.pointer (some ⟨Bf, 0, none⟩), Value.pointer (some ⟨vb, 0, none⟩), x10, Value.agg #[Value.int IntKind.i64 ↑n, Value.slice A0_1 l0_1.length c0_1], Value.int IntKind.i64 ↑fr, Value.bool true, Value.bool false, Value.bool false, Value.int IntKind.i64 ↑tz, x17, x18, x19, Value.int IntKind.i64 ↑tz, Value.pointer (some ⟨w.heap.size, 0, none⟩), Value.int IntKind.i64 ↑n, Value.bool false, x24, Value.agg #[Value.int IntKind.i64 ↑n, Value.slice A0_1 l0_1.length c0_1], Value.int IntKind.i64 ↑tz, Value.slice (some ⟨gf, 0, none⟩) far.length far.length, Value.slice (some ⟨gf, 0, none⟩) far.length far.length, Value.int IntKind.i64 ↑fr, Value.pointer (some ⟨gf, fr, none⟩), Value.int IntKind.i64 df, x32, Value.int IntKind.i64 ↑fr, Value.slice (some ⟨Bf + 1, 0, none⟩) 1 1, Value.int IntKind.i64 ↑fr, x36, x37, x38, x39, x40, x41, x42, x43, x44, x45, x46, x47, x48, x49, x50, x51, x52, x53, x54, x55, x56, x57, x58, undef], defers := ds.map mk_ } ∧ As2 (pathF l0_1 far (tz : Int) k ((v : Int), p) = some rp) ∧ As2 (PSt w n A0_1 c0_1 l0_1 far w.heap.size Bf gf (fun k => (k = gf ∨ k = vb) ∨ k ∈ ds) vb (v : Int) vp p W) ∧ As2 (ds.Nodup ∧ ∀ D ∈ ds, w.heap.size ≤ D ∧ W.heap[D]? = some (.deferred (some []))) ∧ As2 (v < n) ∧ As2 (p.length + k ≤ 10001) ∧ As2 (w.heap.size ≤ vb)) 10000 ?start ?round
    case start => exact ⟨[], Bf + 1 + 1, fr, [(fr : Int)], _, _, _, _, _, _, _, _, _, _, _, _, _, _, _, _, _, _, _, _, _, _, _, _, _, _, _, _, _, _, rfl, HP, ⟨L0.out.prot (fun k hk => .inl (hk.resolve_right (by simp))) (.inl (.inl rfl)) (.inl (.inr rfl))⟩, ⟨List.nodup_nil, by simp⟩, ⟨hfr⟩, ⟨by simp⟩, ⟨by have := ORD.out; omega⟩⟩
    case round =>
      rintro k a W ⟨ds, vb, v, p, vp, x10, x17, x18, x19, x24, x32, x36, x37, x38, x39, x40, x41, x42, x43, x44, x45, x46, x47, x48, x49, x50, x51, x52, x53, x54, x55, x56, x57, x58, rfl, RF, LP, DS, hvn, hpk, hvb⟩
      clear L0 HP HD HU
      obtain ⟨k, rfl⟩ : ∃ k', k = k' + 1 := by
        cases k with
        | zero => have := RF.out; simp [pathF] at this
        | succ k => exact ⟨k, rfl⟩
      have RF2 : (if (v : Int) = (tz : Int) then some p else pathF l0_1 far tz k (pstep far (succL l0_1 v) v, p ++ [pstep far (succL l0_1 v) v])) = some rp := RF.out
      have cv : W.cell? ⟨vb, 0, none⟩ = some (.int .i64 v) := (blk_cell LP.out.hv 0).trans rfl
      have cg0 : W.cell? ⟨w.heap.size, 0, none⟩ = some (.int .i64 n) := (blk_cell LP.out.hg 0).trans rfl
      have cg1 : W.cell? ⟨w.heap.size, 1, none⟩ = some (.slice A0_1 l0_1.length c0_1) := (blk_cell LP.out.hg 1).trans rfl
      clear RF
      by_cases hvt : v = tz
      · subst hvt
        rw [if_pos rfl] at RF2
        obtain rfl := Option.some.inj RF2
        gi_wp2_with fail
        refine leaves_marks ds W DS.out.1 (fun D hD => (DS.out.2 D hD).2) ?_
        intro W' hW'
        have hb : Below w.heap.size W W' := hW'.below (fun D hD => (DS.out.2 D hD).1)
        refine ⟨_, results_tmp2 rfl _ _ _, ⟨_, rfl, ?_, LP.out.bl.trans hb⟩⟩
        exact Kd.R_mono (Kd.R_step LP.out.row (fun k0 hk0 _ => hW'.same k0 (fun hm => hk0 (.inr hm)))) (fun _ _ => trivial)
      · rw [if_neg (by omega)] at RF2
        have RF3 := As2.mk RF2
        have hvt2 : ¬ (v : Int) = (tz : Int) := by omega
        clear RF2
        have HL0 := As2.mk (show l0_1.length < 4611686018427387904 by have := HV.out.len; omega)
        gi_wp2_with (refine ⟨trivial, ?_⟩; gi_at_call 73; refine (callsIn_wide.2 (next_calls (n : Int) (v : Int) A0_1 c0_1 l0_1 W (Kd.C_below R0.out LP.out.bl) HL0.out HV.out.rising HV.out.ends)).mono ?_; rintro e W4 ⟨Ba, Bg2, Bv, i, rfl, hna, hrd, hb4, hge, hbk⟩; have NA := As2.mk hna.out; have RD := As2.mk hrd; have B4 := As2.mk hb4; have GE := As2.mk hge; have BK := As2.mk hbk.out; clear hna hrd hb4 hge hbk)
        clear cv cg0 cg1
        have LT4 := As2.mk (show W.heap.size ≤ Ba ∧ W.heap.size ≤ Bg2 ∧ W.heap.size ≤ Bv ∧ Ba < W4.heap.size ∧ Bg2 < W4.heap.size ∧ Bv < W4.heap.size from ⟨GE.out.1, GE.out.2.1, GE.out.2.2, blk_lt BK.out.1, blk_lt BK.out.2.1, blk_lt BK.out.2.2⟩)
        have L4 := As2.mk (show PSt w n A0_1 c0_1 l0_1 far w.heap.size Bf gf (fun k => ((k = gf ∨ k = vb) ∨ k ∈ ds) ∨ k = Ba ∨ k = Bg2 ∨ k = Bv) vb (v : Int) vp p W4 from LP.out.below B4.out (fun k hk => by
          rcases hk with h | h | h | h
          · exact .inl h
          · subst h; exact .inr ⟨LT4.out.1, LT4.out.2.2.2.1⟩
          · subst h; exact .inr ⟨LT4.out.2.1, LT4.out.2.2.2.2.1⟩
          · subst h; exact .inr ⟨LT4.out.2.2.1, LT4.out.2.2.2.2.2⟩) (fun k hk => .inl hk))
        have D4 := As2.mk (show ∀ D ∈ ds, W4.heap[D]? = some (.deferred (some [])) from fun D hD => blk_below (DS.out.2 D hD).2 B4.out)
        have hbg := As2.mk (show w.heap.size ≤ W4.heap.size from L4.out.bl.size)
        have PY := As2.mk (show ∀ y ∈ succL l0_1 (v : Int), 0 ≤ y ∧ y < (n : Int) by
          intro y hy
          unfold succL at hy
          obtain ⟨x, hx, rfl⟩ := List.mem_map.1 hy
          have := within_iff.1 (HV.out.ins x (List.mem_filter.1 hx).1)
          exact ⟨this.2.2.1, this.2.2.2⟩)
        rename_i K1 hK1
        have REST : ∀ (D : Nat) (W5 : World) (vn : Nat), W4.heap.size ≤ D → vn < n → pstep far (succL l0_1 (v : Int)) (v : Int) = (vn : Int) → PSt w n A0_1 c0_1 l0_1 far w.heap.size Bf gf (fun k => ((k = gf ∨ k = vb) ∨ k ∈ ds) ∨ k = Ba ∨ k = Bg2 ∨ k = Bv) vb (vn : Int) vp p W5 → (∀ D ∈ ds, W5.heap[D]? = some (.deferred (some []))) → W5.heap[D]? = some (.deferred (some [])) → K1 { tmps := #[Value.agg #[Value.int IntKind.i64 ↑n, Value.slice A0_1 l0_1.length c0_1], Value.int IntKind.i64 ↑fr, Value.int IntKind.i64 ↑tz, Value.pointer (some ⟨w.heap.size, 0, none⟩), undef, undef, vp, Value.bool false, Value.pointer (some ⟨Bf, 0, none⟩), Value.pointer (some ⟨vb, 0, none⟩), x10, Value.agg #[Value.int IntKind.i64 ↑n, Value.slice A0_1 l0_1.length c0_1], Value.int IntKind.i64 ↑fr, Value.bool true, Value.bool false, Value.bool false, Value.int IntKind.i64 ↑tz, x17, x18, x19, Value.int IntKind.i64 ↑tz, Value.pointer (some ⟨w.heap.size, 0, none⟩), Value.int IntKind.i64 ↑n, Value.bool false, x24, Value.agg #[Value.int IntKind.i64 ↑n, Value.slice A0_1 l0_1.length c0_1], Value.int IntKind.i64 ↑tz, Value.slice (some ⟨gf, 0, none⟩) far.length far.length, Value.slice (some ⟨gf, 0, none⟩) far.length far.length, Value.int IntKind.i64 ↑fr, Value.pointer (some ⟨gf, fr, none⟩), Value.int IntKind.i64 df, x32, Value.int IntKind.i64 ↑fr, Value.slice (some ⟨Bf + 1, 0, none⟩) 1 1, Value.int IntKind.i64 ↑fr, Value.int .i64 ↑v, Value.int .i64 ↑tz, Value.bool true, Value.agg #[Value.int .i64 ↑n, Value.slice A0_1 l0_1.length c0_1], Value.int .i64 ↑v, Value.func (Fn.func 94) #[] #[Value.pointer (some ⟨Ba, 0, none⟩), Value.pointer (some ⟨Bg2, 0, none⟩), Value.pointer (some ⟨Bv, 0, none⟩)], x42, x43, x44, x45, x46, x47, x48, x49, x50, x51, x52, x53, x54, x55, x56, x57, x58, undef], defers := mk_ D :: ds.map mk_ } W5 := by
          intro D W5 vn hD hvn2 hps h1 h2 hKD
          refine hK1 _ _ ?_
          have cv : W5.cell? ⟨vb, 0, none⟩ = some (.int .i64 vn) := (blk_cell h1.hv 0).trans rfl
          have H1 := As2.mk h1
          have H2 := As2.mk h2
          have HKD := As2.mk hKD
          have HPS := As2.mk hps
          clear h1 h2 hKD hps
          refine region_w ?hno ?hnd ?_
          case hno => rintro ⟨_, _, _, h, _⟩; cases h
          case hnd => kernel_rfl
          obtain ⟨Ap, cp, hvp, hcp, _⟩ := Kd.R_reads H1.out.row
          subst hvp
          go_wp2_with (at_builtin; ((change wpList _ _ _ _ _ (World.alloc W5 (.cells #[.int .i64 vn] 3))); go_must (refine Kd.R_append (Kd.int .i64) (w0 := w) w.heap.size rfl (.tmp 54) (.tmp 56) 31 3 (.int .i64 0) 8 rfl Tryd.underlying31 infoI3 rfl (by decide) (by omega) (.slice Ap p.length cp) p (vn : Int) [.int .i64 vn] (fun k => ¬ (((k = gf ∨ k = vb) ∨ k ∈ ds) ∨ k = Ba ∨ k = Bg2 ∨ k = Bv)) (fun _ => False) ?a0 ?aX ?aP (fun _ hk => hk.elim) ?aF ?aO ?aB ?aS ?aL ?_); (case a0 => rfl); (case aX => go_must (first | exact rfl | exact congrArg (fun z => Value.slice (some ⟨z, 0, none⟩) 1 1) (by simp))); (case aP => exact rfl); (case aB => exact H1.out.bl); (case aF => intro k hk hp; have := H1.out.pr k hp; omega); (case aO => exact H1.out.row); (case aS => exact H1.out.bl.size); (case aL => have := hpk.out; omega); intro v1 w3 hF hb hg hat; have F := As2.mk hF; have FB := As2.mk hb; have GR := As2.mk hg; have AT := As2.mk hat; clear hF hb hg hat))
          have L6 := As2.mk (H1.out.append GR.out F.out)
          have cv3 : w3.cell? ⟨vb, 0, none⟩ = some (.int .i64 vn) := (blk_cell L6.out.hv 0).trans rfl
          have D6 := As2.mk (show ∀ D' ∈ D :: ds, w3.heap[D']? = some (.deferred (some [])) from fun D' hD' => by
            have h5 : W5.heap[D']? = some (.deferred (some [])) := by
              rcases List.mem_cons.1 hD' with rfl | h
              · exact HKD.out
              · exact H2.out D' h
            exact (GR.out.block D' (blk_lt h5) (own_ne H1.out.row h5 rfl)).trans h5)
          have hnd : D ∉ ds := fun hm => by have := blk_lt (D4.out D hm); omega
          clear cv
          gi_wp2_with fail
          refine ⟨k, Nat.lt_succ_self k, D :: ds, w3.heap.size, vn, p ++ [(vn : Int)], _, _, _, _, _, _, _, _, _, _, _, _, _, _, _, _, _, _, _, _, _, _, _, _, _, _, _, _, _, _, rfl, ⟨by rw [← HPS.out]; exact RF3.out⟩, ⟨(L6.out.newbox (vn : Int)).prot (fun k0 hk0 => ?_) (.inl (.inl rfl)) (.inl (.inr rfl))⟩, ⟨List.nodup_cons.2 ⟨hnd, DS.out.1⟩, fun D' hD' => ⟨?_, blk_alloc (D6.out D' hD') _⟩⟩, ⟨hvn2⟩, ⟨by have := hpk.out; simp; omega⟩, ⟨L6.out.bl.size⟩⟩
          · rcases hk0 with (h | h) | h
            · exact .inl (.inl (.inl (.inl (.inl h))))
            · exact .inl (.inr h)
            · exact .inr ⟨_, blk_alloc (D6.out k0 h) _, rfl⟩
          · rcases List.mem_cons.1 hD' with rfl | h
            · exact Nat.le_trans hbg.out hD
            · exact (DS.out.2 D' h).1
        clear hK1
        refine wpIn_rangeFunc_ownG (F := Fence.wide) (n := 3) rfl (by omega) (gf := 94) (lb := #[.pointer (some ⟨Ba, 0, none⟩), .pointer (some ⟨Bg2, 0, none⟩), .pointer (some ⟨Bv, 0, none⟩)]) rfl trivial (enters_of Tryd.func94 (by kernel_rfl) rfl)
          (next_stopsP 2 (by omega) Ba Bg2 Bv A0_1 c0_1 l0_1 (v : Int) i HV.out.rising NA.out (fun y => 0 ≤ y ∧ y < (n : Int)) ⟨(tz : Int), Int.natCast_nonneg _, htl⟩ PY.out W4 RD.out) nextK_t nextK_b (Below.refl _ _) (fun _ => rfl)
          (fun (pre : List {y : Int // 0 ≤ y ∧ y < (n : Int)}) W => PSt w n A0_1 c0_1 l0_1 far w.heap.size Bf gf (fun k => ((k = gf ∨ k = vb) ∨ k ∈ ds) ∨ k = Ba ∨ k = Bg2 ∨ k = Bv) vb (v : Int) vp p W ∧ (∀ D ∈ ds, W.heap[D]? = some (.deferred (some []))) ∧ NextRd Ba Bg2 Bv A0_1 c0_1 l0_1 (v : Int) i W ∧ (∀ x ∈ pre.map (·.1), ¬ rd far x = wrap64 (rd far (v : Int) - 1)))
          (fun c (pre : List {y : Int // 0 ≤ y ∧ y < (n : Int)}) W => c = .exit 2 ∧ ∃ (vn : Nat), vn < n ∧ (∀ q, pre.map (·.1) <+: q → pstep far q (v : Int) = (vn : Int)) ∧ PSt w n A0_1 c0_1 l0_1 far w.heap.size Bf gf (fun k => ((k = gf ∨ k = vb) ∨ k ∈ ds) ∨ k = Ba ∨ k = Bg2 ∨ k = Bv) vb (vn : Int) vp p W ∧ (∀ D ∈ ds, W.heap[D]? = some (.deferred (some []))))
          ?hI ?hIx ⟨L4.out, D4.out, RD.out, by simp⟩
          (fun y => { tmps := #[Value.agg #[Value.int IntKind.i64 ↑n, Value.slice A0_1 l0_1.length c0_1], Value.int IntKind.i64 ↑fr, Value.int IntKind.i64 ↑tz, Value.pointer (some ⟨w.heap.size, 0, none⟩), undef, undef, vp, Value.bool false, Value.pointer (some ⟨Bf, 0, none⟩), Value.pointer (some ⟨vb, 0, none⟩), Value.int .i64 y.1, Value.agg #[Value.int IntKind.i64 ↑n, Value.slice A0_1 l0_1.length c0_1], Value.int IntKind.i64 ↑fr, Value.bool true, Value.bool false, Value.bool false, Value.int IntKind.i64 ↑tz, x17, x18, x19, Value.int IntKind.i64 ↑tz, Value.pointer (some ⟨w.heap.size, 0, none⟩), Value.int IntKind.i64 ↑n, Value.bool false, x24, Value.agg #[Value.int IntKind.i64 ↑n, Value.slice A0_1 l0_1.length c0_1], Value.int IntKind.i64 ↑tz, Value.slice (some ⟨gf, 0, none⟩) far.length far.length, Value.slice (some ⟨gf, 0, none⟩) far.length far.length, Value.int IntKind.i64 ↑fr, Value.pointer (some ⟨gf, fr, none⟩), Value.int IntKind.i64 df, x32, Value.int IntKind.i64 ↑fr, Value.slice (some ⟨Bf + 1, 0, none⟩) 1 1, Value.int IntKind.i64 ↑fr, Value.int .i64 ↑v, Value.int .i64 ↑tz, Value.bool true, Value.agg #[Value.int .i64 ↑n, Value.slice A0_1 l0_1.length c0_1], Value.int .i64 ↑v, Value.func (Fn.func 94) #[] #[Value.pointer (some ⟨Ba, 0, none⟩), Value.pointer (some ⟨Bg2, 0, none⟩), Value.pointer (some ⟨Bv, 0, none⟩)], Value.int .i64 y.1, x43, x44, x45, x46, x47, x48, x49, x50, x51, x52, x53, x54, x55, x56, x57, x58, undef], defers := [] }) ?assign ?body ?done ?stop
        case hI =>
          rintro pre X Y row ⟨h1, h2, h3, h4⟩ hg hr
          have lt : ∀ k0, k0 < W4.heap.size → some k0 ≠ row := fun k0 hk0 e => by
            have := (hr k0 e.symm).1
            omega
          exact ⟨h1.own hg (fun r e => ⟨Nat.le_trans hbg.out (hr r e).1, (hr r e).2⟩), fun D hD => (hg.block D (blk_lt (h2 D hD)) (lt D (blk_lt (D4.out D hD)))).trans (h2 D hD), next_own (β := Unit) Ba Bg2 Bv A0_1 c0_1 l0_1 (v : Int) i () X Y row h3 hg (fun r e => (hr r e).2), h4⟩
        case hIx =>
          rintro c pre X Y row ⟨h0, vn, hvn, hq, h1, h2⟩ hg hr
          have lt : ∀ k0, k0 < W4.heap.size → some k0 ≠ row := fun k0 hk0 e => by
            have := (hr k0 e.symm).1
            omega
          exact ⟨h0, vn, hvn, hq, h1.own hg (fun r e => ⟨Nat.le_trans hbg.out (hr r e).1, (hr r e).2⟩), fun D hD => (hg.block D (blk_lt (h2 D hD)) (lt D (blk_lt (D4.out D hD)))).trans (h2 D hD)⟩
        case assign =>
          intro lp y W K hK
          gi_wp2
          exact hK
        case body =>
          rintro lp pre ⟨y, hy0, hy1⟩ W5 ⟨h1, h2, h3, h4⟩ hpl
          obtain ⟨yn, rfl⟩ := Int.eq_ofNat_of_zero_le hy0
          clear hpl
          have cf : W5.cell? ⟨Bf, 0, none⟩ = some (.slice (some ⟨gf, 0, none⟩) far.length far.length) := (blk_cell h1.hf 0).trans rfl
          have cv : W5.cell? ⟨vb, 0, none⟩ = some (.int .i64 v) := (blk_cell h1.hv 0).trans rfl
          have fv : W5.frozen? ⟨vb, 0, none⟩ = false := blk_frozen h1.hv 0
          have hyl : yn < far.length := by have hl : far.length = n := HFL.out; omega
          have hvl : v < far.length := by have hl : far.length = n := HFL.out; have := hvn.out; omega
          have cgy : W5.cell? ⟨gf, yn, none⟩ = some (.int .i64 (rd far (yn : Int))) := by rw [blk_cell h1.hc, rdI hyl]; simp [hyl]
          have cgv : W5.cell? ⟨gf, v, none⟩ = some (.int .i64 (rd far (v : Int))) := by rw [blk_cell h1.hc, rdI hvl]; simp [hvl]
          have hyi : (yn : Int) < (far.length : Int) := by omega
          have hvi : (v : Int) < (far.length : Int) := by omega
          have HH := As2.mk (And.intro h1 (And.intro h2 (And.intro h3 h4)))
          clear h1 h2 h3 h4
          generalize hdy : rd far (yn : Int) = dy at cgy
          generalize hdv : rd far (v : Int) = dv at cgv HH
          have HDY := As2.mk hdy
          have HDV := As2.mk hdv
          clear hdy hdv
          gi_wp2_with fail
          refine start_in (m := 10) (S := fun w' => w'.cell? ⟨Bf, 0, none⟩ = some (.slice (some ⟨gf, 0, none⟩) far.length far.length) ∧ w'.cell? ⟨vb, 0, none⟩ = some (.int .i64 v) ∧ w'.cell? ⟨gf, v, none⟩ = some (.int .i64 dv) ∧ w'.cell? ⟨gf, yn, none⟩ = some (.int .i64 dy)) (ds := []) #[false, false, false, false, false, false, false, false, false, false] ?hno ?hnd (by kernel_rfl) rfl rfl ⟨cf, cv, cgv, cgy⟩ (fun hHeld => ?_)
          case hno => exact fun ⟨_, _, h⟩ => h
          case hnd => kernel_rfl
          refine take_ (i := 0) (N := (some 43)) (v := ?_) (a' := ?_) #[true, false, false, false, false, false, false, false, false, false] rfl rfl (by kernel_rfl) (fun _ _ _ h => h) (Or.inl ⟨by rfl, ?_⟩) hHeld ?_ ?_
          rotate_left
          · rintro w' ⟨s0, s1, s2, s3⟩
            go_simp
            with_reducible rfl
          rotate_left
          · simp only [Act.put, List.setIfInBounds_toArray, List.set_cons_zero, List.set_cons_succ, i64_w, i32_w]
            rfl
          refine pure_ (i := 1) (N := (some 44)) (v := ?_) (a' := ?_) #[true, true, false, false, false, false, false, false, false, false] rfl rfl (by kernel_rfl) (fun _ _ _ h => h) (Or.inl ⟨by rfl, ?_⟩) ?_ ?_
          rotate_left
          · intro w'
            go_simp
            with_reducible rfl
          rotate_left
          · simp only [Act.put, List.setIfInBounds_toArray, List.set_cons_zero, List.set_cons_succ, i64_w, i32_w]
            rfl
          refine pure_ (i := 2) (N := (some 45)) (v := ?_) (a' := ?_) #[true, true, true, false, false, false, false, false, false, false] rfl rfl (by kernel_rfl) (fun _ _ _ h => h) (Or.inl ⟨by rfl, ?_⟩) ?_ ?_
          rotate_left
          · intro w'
            go_simp
            with_reducible rfl
          rotate_left
          · simp only [Act.put, List.setIfInBounds_toArray, List.set_cons_zero, List.set_cons_succ, i64_w, i32_w]
            rfl
          refine take_ (i := 3) (N := (some 46)) (v := ?_) (a' := ?_) #[true, true, true, true, false, false, false, false, false, false] rfl rfl (by kernel_rfl) (fun _ _ _ h => h) (Or.inl ⟨by rfl, ?_⟩) hHeld ?_ ?_
          rotate_left
          · rintro w' ⟨s0, s1, s2, s3⟩
            go_simp
            with_reducible rfl
          rotate_left
          · simp only [Act.put, List.setIfInBounds_toArray, List.set_cons_zero, List.set_cons_succ, i64_w, i32_w]
            rfl
          refine take_ (i := 4) (N := (some 47)) (v := ?_) (a' := ?_) #[true, true, true, true, true, false, false, false, false, false] rfl rfl (by kernel_rfl) (fun _ _ _ h => h) (Or.inl ⟨by rfl, ?_⟩) hHeld ?_ ?_
          rotate_left
          · rintro w' ⟨s0, s1, s2, s3⟩
            go_simp
            with_reducible rfl
          rotate_left
          · simp only [Act.put, List.setIfInBounds_toArray, List.set_cons_zero, List.set_cons_succ, i64_w, i32_w]
            rfl
          refine take_ (i := 5) (N := (some 48)) (v := ?_) (a' := ?_) #[true, true, true, true, true, true, false, false, false, false] rfl rfl (by kernel_rfl) (fun _ _ _ h => h) (Or.inl ⟨by rfl, ?_⟩) hHeld ?_ ?_
          rotate_left
          · rintro w' ⟨s0, s1, s2, s3⟩
            go_simp
            with_reducible rfl
          rotate_left
          · simp only [Act.put, List.setIfInBounds_toArray, List.set_cons_zero, List.set_cons_succ, i64_w, i32_w]
            rfl
          refine pure_ (i := 6) (N := (some 49)) (v := ?_) (a' := ?_) #[true, true, true, true, true, true, true, false, false, false] rfl rfl (by kernel_rfl) (fun _ _ _ h => h) (Or.inl ⟨by rfl, ?_⟩) ?_ ?_
          rotate_left
          · intro w'
            go_simp
            with_reducible rfl
          rotate_left
          · simp only [Act.put, List.setIfInBounds_toArray, List.set_cons_zero, List.set_cons_succ, i64_w, i32_w]
            rfl
          refine take_ (i := 7) (N := (some 50)) (v := ?_) (a' := ?_) #[true, true, true, true, true, true, true, true, false, false] rfl rfl (by kernel_rfl) (fun _ _ _ h => h) (Or.inl ⟨by rfl, ?_⟩) hHeld ?_ ?_
          rotate_left
          · rintro w' ⟨s0, s1, s2, s3⟩
            go_simp
            with_reducible rfl
          rotate_left
          · simp only [Act.put, List.setIfInBounds_toArray, List.set_cons_zero, List.set_cons_succ, i64_w, i32_w]
            rfl
          refine pure_ (i := 8) (N := (some 51)) (v := ?_) (a' := ?_) #[true, true, true, true, true, true, true, true, true, false] rfl rfl (by kernel_rfl) (fun _ _ _ h => h) (Or.inl ⟨by rfl, ?_⟩) ?_ ?_
          rotate_left
          · intro w'
            go_simp
            with_reducible rfl
          rotate_left
          · simp only [Act.put, List.setIfInBounds_toArray, List.set_cons_zero, List.set_cons_succ, i64_w, i32_w]
            rfl
          refine pure_ (i := 9) (N := (some 52)) (v := ?_) (a' := ?_) #[true, true, true, true, true, true, true, true, true, true] rfl rfl (by kernel_rfl) (fun _ _ _ h => h) (Or.inl ⟨by rfl, ?_⟩) ?_ ?_
          rotate_left
          · intro w'
            go_simp
            with_reducible rfl
          rotate_left
          · simp only [Act.put, List.setIfInBounds_toArray, List.set_cons_zero, List.set_cons_succ, i64_w, i32_w]
            rfl
          refine done_ (by kernel_rfl) ?_
          rename_i K2 hK2
          refine (show K2 _ _ from hK2 _ _ ?_)
          clear hK2 K2
          have hvb2 : w.heap.size ≤ vb := hvb.out
          by_cases he : dy = wrap64 (dv - 1)
          · have HE := As2.mk he
            clear he
            have hbt : (dy == wrap64 (dv - 1)) = true := by rw [HE.out]; simp
            have cv5 : W5.drew.cell? ⟨vb, 0, none⟩ = some (.int .i64 v) := cv
            have fv5 : W5.drew.frozen? ⟨vb, 0, none⟩ = false := fv
            gi_wp2_with fail
            have hk : KeepsOthers W5 (W5.setCell ⟨vb, 0, none⟩ (.int .i64 yn)).drew := ⟨by simp, fun k o hk ho => (Below.heap_setCell W5 ⟨vb, 0, none⟩ _ k (fun e => by have e2 : k = vb := e; rw [e2, HH.out.1.hv] at hk; cases hk; simp [Obj.isCells] at ho)).trans hk⟩
            refine ⟨hk.from _, rfl, yn, by omega, fun q hq => ?_, (HH.out.1.setv hvb2 (yn : Int)).drew 1, fun D hD => hk.2 D _ (HH.out.2.1 D hD) rfl⟩
            have hq2 : pre.map (·.1) ++ [(yn : Int)] <+: q := by simpa using hq
            exact pstep_hit (by rw [HDV.out]; exact HH.out.2.2.2) (by rw [HDY.out, HDV.out]; exact HE.out) hq2
          · have hbt : (dy == wrap64 (dv - 1)) = false := by simpa using he
            gi_wp2_with fail
            refine ⟨⟨Nat.le_refl _, fun _ _ _ h _ => h⟩, fun h => h.below (pw_below_drewN (Below.refl _ _) 1), HH.out.1.drew 1, HH.out.2.1, HH.out.2.2.1.below (pw_below_drewN (Below.refl _ _) 1), fun x hx => ?_⟩
            have hx2 : x ∈ pre.map (·.1) ∨ x = (yn : Int) := by simpa using hx
            rcases hx2 with h | rfl
            · exact HH.out.2.2.2 x h
            · rw [HDY.out]; exact he
        case done =>
          rintro D ys W5 hD hys ⟨h1, h2, h3, h4⟩ hKD
          have hys2 : ys.map (·.1) = succL l0_1 (v : Int) := hys
          rw [hys2] at h4
          refine REST D W5 v hD hvn.out ?_ h1 h2 hKD
          unfold pstep
          rw [List.find?_eq_none.2 (fun x hx => by simpa using h4 x hx)]
        case stop =>
          rintro D c pre W5 hD hSp ⟨rfl, vn, hvn2, hq, h1, h2⟩ hKD
          gi_wp2_with fail
          exact REST D W5 vn hD hvn2 (hq _ hSp) h1 h2 hKD
theorem graph_Path.calls (a0_0 : Int) (A0_1 : Option Addr) (c0_1 : Nat) (l0_1 : List S53) (a1 a2 : Int) (r1 : List Int) (r2 : Bool) (w : World) (hr0_1 : Kd.C k53 w A0_1 l0_1.length l0_1) (hc0_1 : l0_1.length ≤ c0_1) (h : graph_Path.f a0_0 l0_1 a1 a2 = some (r1, r2)) :
    Calls Tryd.prog 40 #[.agg #[.int .i64 a0_0, .slice A0_1 l0_1.length c0_1], .int .i64 a1, .int .i64 a2] w fun e w' => ∃ v0_ : Value, e = .returned (.tuple #[v0_, .bool r2]) ∧ Kd.R (Kd.int .i64) 3 w' w.heap.size (fun _ => True) v0_ r1 ∧ Below w.heap.size w w' := by
  unfold graph_Path.f at h
  by_cases hc : (0 ≤ a1 ∧ a1 < a0_0 ∧ chk a0_0 l0_1 = 0) ∧ 0 ≤ a2 ∧ a2 < a0_0
  · rw [if_pos hc] at h
    obtain ⟨⟨h0, h1, h2⟩, h3, h4⟩ := hc
    obtain ⟨n, rfl⟩ := Int.eq_ofNat_of_zero_le (Int.le_trans h0 (Int.le_of_lt h1))
    obtain ⟨fr, rfl⟩ := Int.eq_ofNat_of_zero_le h0
    obtain ⟨tz, rfl⟩ := Int.eq_ofNat_of_zero_le h3
    obtain ⟨far, hd, hp⟩ := Option.bind_eq_some_iff.1 h
    rw [Int.toNat_natCast, Int.toNat_natCast] at hd
    have hfl : far.length = n := by
      rw [distF_len _ _ _ _ hd]
      simp
    exact callsIn_wide.1 (graph_Path.yes n fr tz A0_1 c0_1 l0_1 far r1 r2 w hr0_1 hc0_1 ((chk_zero _ _).1 h2) (by omega) (by omega) hd hfl hp)
  · rw [if_neg hc] at h
    obtain ⟨rfl, rfl⟩ : [] = r1 ∧ false = r2 := by simpa using h
    exact graph_Path.no a0_0 A0_1 c0_1 l0_1 a1 a2 w hr0_1 hc0_1 hc
end Go.Proofs.YtfgbkklhjocmjaaDoor.Xq
namespace Go.Proofs.YtfgbkklhjocmjaaDoor.Xq
open Go.RowKit Go.Shelf Go.Proofs.YtfgbkklhjocmjaaDoorW.PrintWords Go.Proofs.YtfgbkklhjocmjaaDoorW.PrintLast Go.Proofs.YtfgbkklhjocmjaaDoor.Gv
attribute [local go_sem] Oper.semAt_some
structure LSt (Bs base : Nat) (Pr : Nat → Prop) (p : List Int) (W : World) : Prop where
  hw : ∃ vw, W.heap[Bs]? = some (.cells #[vw] 31) ∧ Kd.R (Kd.int .i64) 3 W base (fun k => ¬ Pr k) vw p
  pr : ∀ k, Pr k → k < W.heap.size ∧ k ≠ Bs
section
variable {Bs base : Nat} {Pr Pr' : Nat → Prop} {p : List Int} {W W' : World}
theorem LSt.own (h : LSt Bs base Pr p W) {row : Option Nat} (hg : W.grownBy W' row) (hr : ∀ r, row = some r → ∃ o : Obj, W.heap[r]? = some o ∧ o.isCells = false) : LSt Bs base Pr p W' := by
  obtain ⟨vw, h1, h2⟩ := h.hw
  exact ⟨⟨vw, (hg.block _ (blk_lt h1) (cells_ne hr h1)).trans h1, Kd.R_grown2 h2 rfl hg (fun k e => by
    obtain ⟨o, ho, hc⟩ := hr k e
    exact own_ne h2 ho hc)⟩, fun k hk => ⟨Nat.lt_of_lt_of_le (h.pr k hk).1 hg.size, (h.pr k hk).2⟩⟩
theorem LSt.app (h : LSt Bs base Pr p W) (hb1 : base ≤ Bs) (hb2 : base ≤ W.heap.size) {vw v1 : Value} {x : Int} {w3 : World} (hvw : W.heap[Bs]? = some (.cells #[vw] 31)) (hr : Kd.R (Kd.int .i64) 3 W base (fun k => ¬ Pr k) vw p)
    (hF : Kd.R (Kd.int .i64) 3 w3 base (fun k => ¬ Pr k) v1 (p ++ [x])) (hg : W.grownBy w3 vw.ownBlock) :
    LSt Bs base Pr (p ++ [x]) (w3.setCell ⟨Bs, 0, none⟩ v1) ∧ (∀ k, Pr k → (w3.setCell ⟨Bs, 0, none⟩ v1).heap[k]? = W.heap[k]?) ∧ Below base W (w3.setCell ⟨Bs, 0, none⟩ v1) ∧ KeepsOthers W (w3.setCell ⟨Bs, 0, none⟩ v1) := by
  have oth : ∀ k, k < W.heap.size → k ≠ Bs → some k ≠ vw.ownBlock → (w3.setCell ⟨Bs, 0, none⟩ v1).heap[k]? = W.heap[k]? := fun k hk h2 h3 =>
    (Below.heap_setCell w3 ⟨Bs, 0, none⟩ v1 k h2).trans (hg.block k hk h3)
  have hw3 : w3.heap[Bs]? = some (.cells #[vw] 31) := (hg.block Bs (blk_lt hvw) (Kd.R_ne hr hvw (by decide))).trans hvw
  refine ⟨⟨⟨v1, blk_put hw3 0 v1 rfl, Kd.R_set hF hw3 (by decide) 0 v1⟩, fun k hk => ⟨?_, (h.pr k hk).2⟩⟩, fun k hk => oth k (h.pr k hk).1 (h.pr k hk).2 (fun e => hr.1 k e.symm hk), (Below.refl base W |>.grown hg hb2 (fun k hk => Kd.R_base hr k hk)).setCell (p := ⟨Bs, 0, none⟩) hb1 v1, ⟨?_, fun k o hk ho => (oth k (blk_lt hk) ?_ ?_).trans hk⟩⟩
  · have := hg.size
    have := (h.pr k hk).1
    simp
    omega
  · have := hg.size
    simp
    omega
  · intro e; subst e; rw [hvw] at hk; cases hk; simp [Obj.isCells] at ho
  · exact own_ne hr hk ho
end
set_option maxRecDepth 100000 in
set_option maxHeartbeats 2000000 in
theorem appendSeq_in (Ba Bg2 Bv : Nat) (A : Option Addr) (c : Nat) (l : List S53) (v : Int) (i : Nat) (hr : Rising l) (ha : NextAt l v i) (hl : l.length ≤ 32768) (W : World) (hR : NextRd Ba Bg2 Bv A c l v i W) :
    CallsIn Fence.wide 3 Tryd.prog 95 #[.slice none 0 0, .func (.func 94) #[] #[.pointer (some ⟨Ba, 0, none⟩), .pointer (some ⟨Bg2, 0, none⟩), .pointer (some ⟨Bv, 0, none⟩)]] W fun e W' => ∃ v0_ : Value, e = .returned v0_ ∧ Kd.R (Kd.int .i64) 3 W' W.heap.size (fun _ => True) v0_ (succL l v) ∧ Below W.heap.size W W' := by
  have HR := As2.mk hR
  have RI := As2.mk hr
  have NA := As2.mk ha
  have hsl : (succL l v).length ≤ 32768 := by
    unfold succL
    rw [List.length_map]
    exact Nat.le_trans (List.length_filter_le _ _) hl
  clear hR hr ha hl
  refine callsIn_of_wp_marks Tryd.func95 rfl trivial ?_ rfl
  simp only [Tryd.ntmps95, List.size_toArray, List.length_cons, List.length_nil, Nat.reduceAdd, Nat.reduceSub, Array.replicate_succ, Array.replicate_zero, List.push_toArray, List.append_toArray, List.nil_append, List.cons_append]
  gi_wp2_with fail
  obtain ⟨W1, hW1⟩ : ∃ W1, W1 = W.alloc (.cells #[.slice none 0 0] 31) := ⟨_, rfl⟩
  have L1 := As2.mk (show LSt W.heap.size W.heap.size (fun _ => False) [] W1 by subst hW1; exact ⟨⟨_, heap_alloc_new W _, Kd.R_nil _ _ _ _ _⟩, fun _ h => h.elim⟩)
  have B1 := As2.mk (show Below W.heap.size W W1 by subst hW1; exact below_alloc (Below.refl _ _) _)
  have hsz1 : W1.heap.size = W.heap.size + 1 := by subst hW1; simp
  rw [← hW1]
  clear hW1
  obtain ⟨Bs, hBs⟩ : ∃ Bs, Bs = W.heap.size := ⟨_, rfl⟩
  have HBS := As2.mk hBs
  rw [← hBs] at L1
  rename_i K1 hK1
  refine wpIn_rangeFunc_ownG (F := Fence.wide) (n := 3) rfl (by omega) (gf := 94) (lb := #[.pointer (some ⟨Ba, 0, none⟩), .pointer (some ⟨Bg2, 0, none⟩), .pointer (some ⟨Bv, 0, none⟩)]) rfl trivial (enters_of Tryd.func94 (by kernel_rfl) rfl)
    (next_stops 2 (by omega) Ba Bg2 Bv A c l v i RI.out NA.out W1 (HR.out.below B1.out)) nextK_t nextK_b (Below.refl _ _) (fun _ => rfl)
    (fun pre W' => LSt Bs W.heap.size (fun _ => False) pre W' ∧ Below W.heap.size W W') (fun _ _ _ => False) ?hI (fun _ _ _ _ _ hs _ _ => hs) ⟨by rw [hBs] at L1 ⊢; exact L1.out, B1.out⟩
    (fun y => { tmps := #[.slice none 0 0, .func (.func 94) #[] #[.pointer (some ⟨Ba, 0, none⟩), .pointer (some ⟨Bg2, 0, none⟩), .pointer (some ⟨Bv, 0, none⟩)], .pointer (some ⟨W.heap.size, 0, none⟩), undef, .slice none 0 0, .int .i64 y, .func (.func 94) #[] #[.pointer (some ⟨Ba, 0, none⟩), .pointer (some ⟨Bg2, 0, none⟩), .pointer (some ⟨Bv, 0, none⟩)], .int .i64 y, undef, undef, undef, undef, undef], defers := [] }) ?assign ?body ?done ?stop
  case hI =>
    rintro pre X Y row ⟨h1, h2⟩ hg hr
    exact ⟨h1.own hg (fun r e => (hr r e).2), h2.grown hg h2.size (fun r e => by have := (hr r e).1; omega)⟩
  case assign =>
    intro lp y W' K hK
    gi_wp2
    exact hK
  case body =>
    rintro lp pre y W5 ⟨h1, h2⟩ hpl
    obtain ⟨vw, hw1, hw2⟩ := h1.hw
    obtain ⟨Ap, cp, hvp, hcp, _⟩ := Kd.R_reads hw2
    subst hvp
    have HW1 := As2.mk hw1
    have HW2 := As2.mk hw2
    have cw : W5.cell? ⟨Bs, 0, none⟩ = some (.slice Ap pre.length cp) := (blk_cell hw1 0).trans rfl
    have lt2 := blk_lt hw1
    have HH := As2.mk (And.intro h1 h2)
    clear h1 h2 hw1 hw2
    rw [← HBS.out]
    clear hBs
    refine wpIn_block ?_
    refine region_in ?hno ?hnd ?_
    case hno => rintro ⟨_, _, h⟩; exact h
    case hnd => kernel_rfl
    go_wp2_with (at_builtin; ((change wpList _ _ _ _ _ (World.alloc W5 (.cells #[.int .i64 y] 3))); go_must (refine Kd.R_append (Kd.int .i64) (w0 := W) W.heap.size rfl (.tmp 8) (.tmp 10) 31 3 (.int .i64 0) 8 rfl Tryd.underlying31 infoI3 rfl (by decide) (by omega) (.slice Ap pre.length cp) pre y [.int .i64 y] (fun k => ¬ False) (fun _ => False) ?a0 ?aX ?aP (fun _ hk => hk.elim) ?aF ?aO ?aB ?aS ?aL ?_); (case a0 => rfl); (case aX => go_must (first | exact rfl | exact congrArg (fun z => Value.slice (some ⟨z, 0, none⟩) 1 1) (by simp))); (case aP => exact rfl); (case aB => exact HH.out.2); (case aF => exact fun _ _ h => h); (case aO => exact HW2.out); (case aS => exact HH.out.2.size); (case aL => omega); intro v1 w3 hF hb hg hat; obtain ⟨A1, c1, hv1, hc1, _⟩ := Kd.R_reads hF; subst hv1; have F := As2.mk hF; have GR := As2.mk hg; have gw3 : w3.heap[Bs]? = some (.cells #[.slice Ap pre.length cp] 31) := (hg.block Bs (blk_lt HW1.out) (Kd.R_ne HW2.out HW1.out (by decide))).trans HW1.out; have k3 : w3.cell? ⟨Bs, 0, none⟩ = some (.slice Ap pre.length cp) := (blk_cell gw3 0).trans rfl; have f3 := blk_frozen gw3 0; clear hF hb hg hat gw3))
    have e := HBS.out
    subst e
    obtain ⟨E1, E2, E3, E4⟩ := HH.out.1.app (Nat.le_refl _) HH.out.2.size HW1.out HW2.out F.out GR.out
    have el : (pre ++ [y]).length = pre.length + 1 := by simp
    rw [el] at E1 E2 E3 E4
    have bl := HH.out.2.trans E3
    exact ⟨E4.from _, fun _ => HR.out.below bl, E1, bl⟩
  case done =>
    rintro D ys W5 hD rfl ⟨h1, h2⟩ hKD
    refine (show K1 _ _ from hK1 _ _ ?_)
    obtain ⟨vw, hw1, hw2⟩ := h1.hw
    have cw : W5.cell? ⟨Bs, 0, none⟩ = some vw := (blk_cell hw1 0).trans rfl
    have HW2 := As2.mk hw2
    have HKD := As2.mk hKD
    have H2 := As2.mk h2
    rw [← HBS.out]
    have hDge := As2.mk (show W.heap.size ≤ D by omega)
    clear hBs hw1 hw2 h1 h2 hKD hD
    gi_wp2_with fail
    refine leaves_marks [D] W5 (by simp) (fun D' hD' => by obtain rfl : D' = D := (by simpa using hD'); exact HKD.out) ?_
    intro W' hW'
    have hge : W.heap.size ≤ D := by
      have := hDge.out
      omega
    have hb : Below W.heap.size W5 W' := hW'.below (fun D' hD' => by obtain rfl : D' = D := (by simpa using hD'); exact hge)
    rw [HBS.out]
    refine ⟨_, results_tmp rfl _ _ _, ⟨_, rfl, ?_, H2.out.trans hb⟩⟩
    refine Kd.R_mono (Kd.R_step (Kd.R_tight rfl HW2.out) (fun k0 hk0 hlt => hW'.same k0 (fun hm => ?_))) (fun _ _ => trivial)
    obtain rfl : k0 = D := by simpa using hm
    exact own_ne HW2.out HKD.out rfl hk0
  case stop =>
    rintro D c pre W5 _ _ h _
    exact h.elim
theorem collect_calls (Ba Bg2 Bv : Nat) (A : Option Addr) (c : Nat) (l : List S53) (v : Int) (i : Nat) (hr : Rising l) (ha : NextAt l v i) (hl : l.length ≤ 32768) (W : World) (hR : NextRd Ba Bg2 Bv A c l v i W) :
    Calls Tryd.prog 78 #[.func (.func 94) #[] #[.pointer (some ⟨Ba, 0, none⟩), .pointer (some ⟨Bg2, 0, none⟩), .pointer (some ⟨Bv, 0, none⟩)]] W fun e W' => ∃ v0_ : Value, e = .returned v0_ ∧ Kd.R (Kd.int .i64) 3 W' W.heap.size (fun _ => True) v0_ (succL l v) ∧ Below W.heap.size W W' := by
  have HR := As2.mk hR
  have RI := As2.mk hr
  have NA := As2.mk ha
  have HL := As2.mk hl
  clear hR hr ha hl
  go_enter Tryd.func78, Tryd.ntmps78
  go_wp2_with (go_at_call 95; refine (callsIn_wide.1 (appendSeq_in Ba Bg2 Bv A c l v i RI.out NA.out HL.out W HR.out)).mono ?_; rintro e W' ⟨v0, rfl, h1, h2⟩; have H1 := As2.mk h1; have H2 := As2.mk h2; clear h1 h2)
  go_ret
  exact ⟨_, rfl, H1.out, H2.out⟩
def graph_Succ.f (a0_0 : Int) (l0_1 : List S53) (a1 : Int) : Option (List Int) := some (if 0 ≤ a1 ∧ a1 < a0_0 ∧ chk a0_0 l0_1 = 0 then succL l0_1 a1 else [])
set_option maxRecDepth 100000 in
set_option maxHeartbeats 1000000 in
theorem graph_Succ.calls (a0_0 : Int) (A0_1 : Option Addr) (c0_1 : Nat) (l0_1 : List S53) (a1 : Int) (r : List Int) (w : World) (hr0_1 : Kd.C k53 w A0_1 l0_1.length l0_1) (hc0_1 : l0_1.length ≤ c0_1) (h : graph_Succ.f a0_0 l0_1 a1 = some r) :
    Calls Tryd.prog 42 #[.agg #[.int .i64 a0_0, .slice A0_1 l0_1.length c0_1], .int .i64 a1] w fun e w' => ∃ v0_ : Value, e = .returned v0_ ∧ Kd.R (Kd.int .i64) 3 w' w.heap.size (fun _ => True) v0_ r ∧ Below w.heap.size w w' := by
  have R0 := As2.mk hr0_1
  have HF := As2.mk (usable_f a0_0 l0_1 a1 _ (Nat.le_refl _))
  unfold graph_Succ.f at h
  have H := As2.mk (Option.some.inj h)
  clear hr0_1 h
  by_cases hu : 0 ≤ a1 ∧ a1 < a0_0 ∧ chk a0_0 l0_1 = 0
  · rw [if_pos hu] at H
    rw [decide_eq_true hu] at HF
    have HV := As2.mk ((chk_zero _ _).1 hu.2.2)
    have HL0 := As2.mk (show l0_1.length < 4611686018427387904 by have := HV.out.len; omega)
    clear hu
    go_enter Tryd.func42, Tryd.ntmps42
    go_wp2_with (first | (go_at_call 75; refine (graph_usable.calls _ a0_0 A0_1 c0_1 l0_1 a1 true _ ?hr hc0_1 HF.out).mono ?_; (case hr => exact Kd.C_alloc R0.out _); rintro e w1 ⟨rfl, hb⟩; have B1 := As2.mk hb; clear hb; have kk := blk_below (heap_alloc_new w (.cells #[.int .i64 a0_0, .slice A0_1 l0_1.length c0_1] 24)) B1.out; have g0 : w1.cell? ⟨w.heap.size, 0, none⟩ = some (.int .i64 a0_0) := (blk_cell kk 0).trans rfl; have g1 : w1.cell? ⟨w.heap.size, 1, none⟩ = some (.slice A0_1 l0_1.length c0_1) := (blk_cell kk 1).trans rfl; clear kk) | (go_at_call 73; have BB := As2.mk (below_step ((Below.refl w.heap.size w).alloc (Nat.le_refl _) (.cells #[.int .i64 a0_0, .slice A0_1 l0_1.length c0_1] 24)) B1.out); refine (next_calls a0_0 a1 A0_1 c0_1 l0_1 w1 (Kd.C_below R0.out BB.out) HL0.out HV.out.rising HV.out.ends).mono ?_; rintro e W4 ⟨Ba, Bg2, Bv, i, rfl, hna, hrd, hb4, hge, hbk⟩; have NA := As2.mk hna.out; have RD := As2.mk hrd; have B4 := As2.mk hb4; clear hna hrd hb4 hge hbk g0 g1) | (go_at_call 78; refine (collect_calls Ba Bg2 Bv A0_1 c0_1 l0_1 a1 i HV.out.rising NA.out HV.out.len W4 RD.out).mono ?_; rintro e W5 ⟨v0, rfl, h1, h2⟩; have H1 := As2.mk h1; have H2 := As2.mk h2; clear h1 h2))
    go_ret
    have b4 := below_step BB.out B4.out
    exact ⟨_, rfl, by rw [← H.out]; exact Kd.R_lower H1.out b4.size, below_step b4 H2.out⟩
  · rw [if_neg hu] at H
    rw [decide_eq_false hu] at HF
    clear hu
    go_enter Tryd.func42, Tryd.ntmps42
    go_wp2_with (go_at_call 75; refine (graph_usable.calls _ a0_0 A0_1 c0_1 l0_1 a1 false _ ?hr hc0_1 HF.out).mono ?_; (case hr => exact Kd.C_alloc R0.out _); rintro e w1 ⟨rfl, hb⟩; have B1 := As2.mk hb; clear hb)
    go_ret
    exact ⟨_, rfl, by rw [← H.out]; exact Kd.R_nil _ _ _ _ _, below_step ((Below.refl _ _).alloc (Nat.le_refl _) _) B1.out⟩
end Go.Proofs.YtfgbkklhjocmjaaDoor.Xq
namespace Go.Proofs.YtfgbkklhjocmjaaDoor.Xq
open Go.RowKit Go.Proofs.YtfgbkklhjocmjaaDoorW.PrintWords Go.Proofs.YtfgbkklhjocmjaaDoorW.PrintLast Go.Proofs.YtfgbkklhjocmjaaDoorW.PrintMore
attribute [local go_sem] max2_int min2_int max_two min_two max_three min_three max_four min_four
def w4_awake.f  : Option (Bool) := (graph_Make.f 3 (([(⟨1,2⟩ : S53),(⟨0,1⟩ : S53),(⟨1,2⟩ : S53)] : List (S53)))).bind fun bt104 => ((graph_Path.f bt104.1 bt104.2.1 0 2).bind fun bt110 => (if bt104.2.2 = 0 then (if (bt104.2.1.length : Int) = 2 then (if bt110.2 = true then (if (bt110.1.length : Int) = 3 then ((graph_Reach.f bt104.1 bt104.2.1 (([1] : List Int))).bind fun t117 => (some ((t117.length : Int) == 2))) else (some false)) else (some false)) else (some false)) else (some false)))
set_option maxHeartbeats 8000000 in
set_option maxRecDepth 100000 in
theorem w4_awake.calls  (r : Bool) (w : World) (hG_ : TabW w) (h : w4_awake.f  = some r) :
  Calls Tryd.prog 30 #[] w fun e w' => e = .returned (.bool r) ∧ Below w.heap.size w w' := by
 have hu53 := Tryd.underlying53
 have hu24 := Tryd.underlying24
 have HB := aM_ (Below.refl w.heap.size w)
 have HG_ := aM_ hG_
 clear hG_
 have H : ((graph_Make.f 3 (([(⟨1,2⟩ : S53),(⟨0,1⟩ : S53),(⟨1,2⟩ : S53)] : List (S53)))).bind fun bt104 => ((graph_Path.f bt104.1 bt104.2.1 0 2).bind fun bt110 => (if bt104.2.2 = 0 then (if (bt104.2.1.length : Int) = 2 then (if bt110.2 = true then (if (bt110.1.length : Int) = 3 then ((graph_Reach.f bt104.1 bt104.2.1 (([1] : List Int))).bind fun t117 => (some ((t117.length : Int) == 2))) else (some false)) else (some false)) else (some false)) else (some false)))) = some r := h
 clear h
 obtain ⟨y101,hy101⟩ : ∃ y_ : List (S53),y_ = (([(⟨1,2⟩ : S53),(⟨0,1⟩ : S53),(⟨1,2⟩ : S53)] : List (S53))) := ⟨_,rfl⟩
 replace H : ((graph_Make.f 3 y101).bind fun bt104 => ((graph_Path.f bt104.1 bt104.2.1 0 2).bind fun bt110 => (if bt104.2.2 = 0 then (if (bt104.2.1.length : Int) = 2 then (if bt110.2 = true then (if (bt110.1.length : Int) = 3 then ((graph_Reach.f bt104.1 bt104.2.1 (([1] : List Int))).bind fun t117 => (some ((t117.length : Int) == 2))) else (some false)) else (some false)) else (some false)) else (some false)))) = some r := by first | (rw [hy101]; with_reducible exact H) | (have H2_ := (Option.bind_some _ _).symm.trans H; rw [hy101]; with_reducible exact H2_) | (have H2_ := (Option.bind_some _ _).symm.trans H; with_reducible exact H2_) | with_reducible exact H | (rw [hy101]; exact H) | exact H
 have Ny101 := aM_ hy101
 clear hy101
 replace H := Option.bind_eq_some_iff.mp H
 obtain ⟨⟨t104,t105,t108⟩,A10,H⟩ := H
 replace H : ((graph_Path.f t104 t105 0 2).bind fun bt110 => (if t108 = 0 then (if (t105.length : Int) = 2 then (if bt110.2 = true then (if (bt110.1.length : Int) = 3 then ((graph_Reach.f t104 t105 (([1] : List Int))).bind fun t117 => (some ((t117.length : Int) == 2))) else (some false)) else (some false)) else (some false)) else (some false))) = some r := H
 have A1 := aM_ A10
 clear A10
 replace H := Option.bind_eq_some_iff.mp H
 obtain ⟨⟨t110,t113⟩,A20,H⟩ := H
 replace H : (if t108 = 0 then (if (t105.length : Int) = 2 then (if t113 = true then (if (t110.length : Int) = 3 then ((graph_Reach.f t104 t105 (([1] : List Int))).bind fun t117 => (some ((t117.length : Int) == 2))) else (some false)) else (some false)) else (some false)) else (some false)) = some r := H
 have A2 := aM_ A20
 clear A20
 by_cases c3 : t108 = 0
 ·rw [if_pos c3] at H
  have c3b0 : (t108 == 0) = true := beq_iff_eq.mpr c3
  have c3b1 : (t108 != 0) = false := bne_eq_false_iff_eq.mpr c3
  clear c3
  by_cases c4 : (t105.length : Int) = 2
  ·rw [if_pos c4] at H
   have c4b0 : ((t105.length : Int) == 2) = true := beq_iff_eq.mpr c4
   have c4b1 : ((t105.length : Int) != 2) = false := bne_eq_false_iff_eq.mpr c4
   clear c4
   by_cases c5 : t113 = true
   ·subst c5
    have H1 : (if (t110.length : Int) = 3 then ((graph_Reach.f t104 t105 (([1] : List Int))).bind fun t117 => (some ((t117.length : Int) == 2))) else (some false)) = some r := by rw [if_pos rfl] at H; exact H
    clear H
    have H := H1
    clear H1
    by_cases c6 : (t110.length : Int) = 3
    ·rw [if_pos c6] at H
     have c6b0 : ((t110.length : Int) == 3) = true := beq_iff_eq.mpr c6
     have c6b1 : ((t110.length : Int) != 3) = false := bne_eq_false_iff_eq.mpr c6
     clear c6
     obtain ⟨y114,hy114⟩ : ∃ y_ : List Int,y_ = (([1] : List Int)) := ⟨_,rfl⟩
     replace H : ((graph_Reach.f t104 t105 y114).bind fun t117 => (some ((t117.length : Int) == 2))) = some r := by first | (rw [hy114]; with_reducible exact H) | (have H2_ := (Option.bind_some _ _).symm.trans H; rw [hy114]; with_reducible exact H2_) | (have H2_ := (Option.bind_some _ _).symm.trans H; with_reducible exact H2_) | with_reducible exact H | (rw [hy114]; exact H) | exact H
     have Ny114 := aM_ hy114
     clear hy114
     replace H := Option.bind_eq_some_iff.mp H
     obtain ⟨t117,A70,H⟩ := H
     replace H : (some ((t117.length : Int) == 2)) = some r := H
     have A7 := aM_ A70
     clear A70
     obtain rfl := Option.some.inj H
     go_enter Tryd.func30,Tryd.ntmps30
     go_wp2_with (first | ((with_reducible refine gate_dst (N := 9) rfl ?_); (try (refine gate_guard (by rfl) ?_; dsimp only)); refine Kd.R_lit k53 _ 53 ?hg (N := 9) ?hd (xs := ([(⟨1,2⟩ : S53),(⟨0,1⟩ : S53),(⟨1,2⟩ : S53)] : List (S53))) (inner := [.int .i64 1,.int .i64 2,.int .i64 0,.int .i64 1,.int .i64 1,.int .i64 2]) (ok := fun _ => True) (okp := fun _ => True) ?hr ?hp (fun _ hk => hk) trivial (Below.refl _ _) (Nat.le_refl _) (by simp) ?_; (case hd => rfl); (case hg => rfl); (case hr => first | (go_simp; done) | (go_simp; rfl)); (case hp => exact (Reps.c2 (show Kd.M k53 _ _ _ (⟨1,2⟩ : S53) [.int .i64 1,.int .i64 2] from (k53_mkM _ _ _ (⟨1,2⟩ : S53) )) (Reps.c2 (show Kd.M k53 _ _ _ (⟨0,1⟩ : S53) [.int .i64 0,.int .i64 1] from (k53_mkM _ _ _ (⟨0,1⟩ : S53) )) (Reps.c2 (show Kd.M k53 _ _ _ (⟨1,2⟩ : S53) [.int .i64 1,.int .i64 2] from (k53_mkM _ _ _ (⟨1,2⟩ : S53) )) (Reps.none _ _))))); intro v102 w8 ho9 hb hg_ hnew_; clear hg_ hnew_; (first | rw [← Ny101.out] at ho9 | (simp only [Int.reduceToNat] at ho9; rw [← Ny101.out] at ho9)); have n0_ := aM_ (Kd.R_lower ho9 (below_size (by repeat (first | (with_reducible first | exact HB.out | apply bA_ | apply bB_ | apply bC_) | exact HB.out)))); have n1_ := aM_ (below_step (by repeat (first | (with_reducible first | exact HB.out | apply bA_ | apply bB_ | apply bC_) | exact HB.out)) hb); clear HB; have HO103 := n0_; have HB := n1_; clear n0_ n1_; clear hb ho9; obtain ⟨Ao10,co10,eo10⟩ := Kd.R_slice HO103.out; subst eo10) | ((with_reducible refine gate_callee (f := 31) rfl ?_); refine goesL_ (some 10) rfl rfl Tryd.func31 (by kernel_rfl) rfl #[.int .i64 3,.slice Ao10 y101.length co10] rfl (by (try simp only [List.map_toArray,List.map_cons,List.map_nil]); first | done | rfl | (simp only [List.length_drop,List.length_take]; rfl)) ?_; (with_reducible refine (graph_Make.calls 3 _ _ y101 t104 t105 t108 _ ?side1 ?side2 A1.out).mono ?_); (case side1 => repeat (first | exact (Kd.R_reads' HO103.out).2.2 | (with_reducible refine Kd.C_alloc ?_ _) | (with_reducible refine Kd.C_drewN ?_ _) | (with_reducible refine Kd.C_drew ?_))); (case side2 => exact (Kd.R_reads' HO103.out).2.1); rintro e w11 ⟨v106,rfl,ho0,hb⟩; refine ⟨_,rfl,?_⟩; have n0_ := aM_ (Kd.R_elder' (by (with_reducible repeat (first | apply rA_ | apply rB_ | apply rC_)); exact HO103.out) (Kd.R_base ho0) hb); have n1_ := aM_ (Kd.R_lower (Kd.R_new' ho0 (Kd.R_lt (by (with_reducible repeat (first | apply rA_ | apply rB_ | apply rC_)); exact HO103.out))) (below_size (by repeat (first | (with_reducible first | exact HB.out | apply bA_ | apply bB_ | apply bC_) | exact HB.out)))); have n2_ := aM_ (below_step (by repeat (first | (with_reducible first | exact HB.out | apply bA_ | apply bB_ | apply bC_) | exact HB.out)) hb); clear HO103; clear HB; have HO103 := n0_; have HO107 := n1_; have HB := n2_; clear n0_ n1_ n2_; (try clear hb); (try clear hb2); (try clear hk); (try clear hi); (try clear ho0)) | ((with_reducible refine gate_dst (N := 1) rfl ?_); (try (refine gate_guard (by rfl) ?_; dsimp only)); refine box_event ?hg (N := 1) ?hd (cs := #[.int .i64 0,.slice none 0 0]) (t := 24) ?hr ?_; (case hd => rfl); (case hg => rfl); (case hr => first | (go_simp; done) | (go_simp; rfl)); intro gb109 hg w12 hbox hb; have n0_ := aM_ (Kd.R_below (by (with_reducible repeat (first | apply rA_ | apply rB_ | apply rC_)); exact HO103.out) hb); have n1_ := aM_ (Kd.R_below (by (with_reducible repeat (first | apply rA_ | apply rB_ | apply rC_)); exact HO107.out) hb); have n2_ := aM_ (below_step (by repeat (first | (with_reducible first | exact HB.out | apply bA_ | apply bB_ | apply bC_) | exact HB.out)) hb); have n3_ := aM_ (hbox); have n4_ := aM_ ((by rw [hg]; exact (below_size (by repeat (first | (with_reducible first | exact HB.out | apply bA_ | apply bB_ | apply bC_) | exact HB.out))) : w.heap.size ≤ gb109)); have n5_ := aM_ ((by rw [hg]; exact (below_size (by repeat (first | (with_reducible first | exact HB.out | apply bA_ | apply bB_ | apply bC_) | exact HB.out))) : w.heap.size ≤ gb109)); clear HO103; clear HO107; clear HB; have HO103 := n0_; have HO107 := n1_; have HB := n2_; have BK109 := n3_; have GW109 := n4_; have GE109 := n5_; clear n0_ n1_ n2_ n3_ n4_ n5_; clear hb hbox hg; have hcz13_0 : w12.cell? ⟨gb109,0,none⟩ = some (.int .i64 0) := (blk_cell BK109.out 0).trans rfl; have hcz13_1 : w12.cell? ⟨gb109,1,none⟩ = some (.slice none 0 0) := (blk_cell BK109.out 1).trans rfl; have hfz13_0 := blk_frozen BK109.out 0; have hfz13_1 := blk_frozen BK109.out 1; obtain ⟨Ao14,co14,eo14⟩ := Kd.R_slice HO107.out; subst eo14) | ((with_reducible refine gate_callee (f := 40) rfl ?_); refine goesL_ (some 15) rfl rfl Tryd.func40 (by kernel_rfl) rfl #[.agg #[.int .i64 t104,.slice Ao14 t105.length co14],.int .i64 0,.int .i64 2] rfl (by (try simp only [List.map_toArray,List.map_cons,List.map_nil]); first | done | rfl | (simp only [List.length_drop,List.length_take]; rfl)) ?_; (with_reducible refine (graph_Path.calls t104 _ _ t105 0 2 t110 true _ ?side1 ?side2 A2.out).mono ?_); (case side1 => refine (Kd.R_reads' (e := 53) (base := w.heap.size) (ok := fun k_ => (True ∧ some k_ ≠ (.slice Ao10 y101.length co10 : Value).ownBlock)) (n := t105.length) (c := co14) ?_).2.2; exact (by (with_reducible repeat (first | apply rA_ | apply rB_ | apply rC_)); exact (Kd.R_mono (Kd.R_far (p := ⟨gb109,1,none⟩) (Kd.R_far (p := ⟨gb109,0,none⟩) (Kd.R_types HO107.out BK109.out (by decide)) (fun _ hk => hk.2) (.int .i64 t104)) (fun _ hk => hk.2) (.slice Ao14 t105.length co14)) (fun _ h_ => h_.1)))); (case side2 => exact (Kd.R_reads' HO107.out).2.1); rintro e w15 ⟨v111,rfl,ho0,hb⟩; refine ⟨_,rfl,?_⟩; have n0_ := aM_ (Kd.R_below (by (with_reducible repeat (first | apply rA_ | apply rB_ | apply rC_)); exact (Kd.R_mono (Kd.R_far (p := ⟨gb109,1,none⟩) (Kd.R_far (p := ⟨gb109,0,none⟩) (Kd.R_types HO103.out BK109.out (by decide)) (fun _ hk => hk.2) (.int .i64 t104)) (fun _ hk => hk.2) (.slice Ao14 t105.length co14)) (fun _ h_ => h_.1))) hb); have n1_ := aM_ (Kd.R_below (by (with_reducible repeat (first | apply rA_ | apply rB_ | apply rC_)); exact (Kd.R_mono (Kd.R_far (p := ⟨gb109,1,none⟩) (Kd.R_far (p := ⟨gb109,0,none⟩) (Kd.R_types HO107.out BK109.out (by decide)) (fun _ hk => hk.2) (.int .i64 t104)) (fun _ hk => hk.2) (.slice Ao14 t105.length co14)) (fun _ h_ => h_.1))) hb); have n2_ := aM_ (Kd.R_lower ho0 (below_size (by repeat (first | (with_reducible first | exact HB.out | apply bA_ | apply bB_ | apply bC_ | refine below_set ?_ GE109.out) | exact HB.out)))); have n3_ := aM_ (blk_below (g := gb109) (o := .cells #[.int .i64 t104,.slice Ao14 t105.length co14] 24 (0,0)) (by (with_reducible repeat (first | refine blk_drewN ?_ _ | refine blk_drew ?_ | refine blk_alloc ?_ _)); refine blk_put (cs := #[.int .i64 t104,.slice none 0 0]) ?_ 1 _ rfl; (with_reducible repeat (first | refine blk_drewN ?_ _ | refine blk_drew ?_ | refine blk_alloc ?_ _)); refine blk_put (cs := #[.int .i64 0,.slice none 0 0]) ?_ 0 _ rfl; (with_reducible repeat (first | refine blk_drewN ?_ _ | refine blk_drew ?_ | refine blk_alloc ?_ _)); exact BK109.out) hb); have n4_ := aM_ (below_step (by repeat (first | (with_reducible first | exact HB.out | apply bA_ | apply bB_ | apply bC_ | refine below_set ?_ GE109.out) | exact HB.out)) hb); clear HO103; clear HO107; clear BK109; clear HB; have HO103 := n0_; have HO107 := n1_; have HO112 := n2_; have BK109 := n3_; have HB := n4_; clear n0_ n1_ n2_ n3_ n4_; (try clear hb); (try clear hb2); (try clear hk); (try clear hi); (try clear ho0); have hcz16_0 : w15.cell? ⟨gb109,0,none⟩ = some (.int .i64 t104) := (blk_cell BK109.out 0).trans rfl; have hcz16_1 : w15.cell? ⟨gb109,1,none⟩ = some (.slice Ao14 t105.length co14) := (blk_cell BK109.out 1).trans rfl; have hfz16_0 := blk_frozen BK109.out 0; have hfz16_1 := blk_frozen BK109.out 1; obtain ⟨Ao17,co17,eo17⟩ := Kd.R_slice HO112.out; subst eo17) | ((with_reducible refine gate_dst (N := 36) rfl ?_); (try (refine gate_guard (by rfl) ?_; dsimp only)); refine Kd.R_lit (Kd.int .i64) _ 3 ?hg (N := 36) ?hd (xs := ([1] : List Int)) (inner := [.int .i64 1]) (ok := fun _ => True) (okp := fun _ => True) ?hr ?hp (fun _ hk => hk) trivial (Below.refl _ _) (Nat.le_refl _) (by simp) ?_; (case hd => rfl); (case hg => rfl); (case hr => first | (go_simp; done) | (go_simp; rfl)); (case hp => exact (Reps.one (show Kd.M (Kd.int .i64) _ _ _ 1 [.int .i64 1] from rfl) (Reps.none _ _))); intro v115 w18 ho19 hb hg_ hnew_; clear hg_ hnew_; (first | rw [← Ny114.out] at ho19 | (simp only [Int.reduceToNat] at ho19; rw [← Ny114.out] at ho19)); have n0_ := aM_ (Kd.R_below (by (with_reducible repeat (first | apply rA_ | apply rB_ | apply rC_)); exact HO103.out) hb); have n1_ := aM_ (Kd.R_below (by (with_reducible repeat (first | apply rA_ | apply rB_ | apply rC_)); exact HO107.out) hb); have n2_ := aM_ (Kd.R_elder' (by (with_reducible repeat (first | apply rA_ | apply rB_ | apply rC_)); exact HO112.out) (Kd.R_base ho19) hb); have n3_ := aM_ (Kd.R_lower (Kd.R_new' ho19 (Kd.R_lt (by (with_reducible repeat (first | apply rA_ | apply rB_ | apply rC_)); exact HO112.out))) (below_size (by repeat (first | (with_reducible first | exact HB.out | apply bA_ | apply bB_ | apply bC_ | refine below_set ?_ GE109.out) | exact HB.out)))); have n4_ := aM_ (blk_below (g := gb109) (o := .cells #[.int .i64 t104,.slice Ao14 t105.length co14] 24 (0,0)) (by (with_reducible repeat (first | refine blk_drewN ?_ _ | refine blk_drew ?_ | refine blk_alloc ?_ _)); exact BK109.out) hb); have n5_ := aM_ (below_step (by repeat (first | (with_reducible first | exact HB.out | apply bA_ | apply bB_ | apply bC_ | refine below_set ?_ GE109.out) | exact HB.out)) hb); clear HO103; clear HO107; clear HO112; clear BK109; clear HB; have HO103 := n0_; have HO107 := n1_; have HO112 := n2_; have HO116 := n3_; have BK109 := n4_; have HB := n5_; clear n0_ n1_ n2_ n3_ n4_ n5_; clear hb ho19; obtain ⟨Ao20,co20,eo20⟩ := Kd.R_slice HO116.out; subst eo20) | (go_at_call 35; (with_reducible refine (graph_Reach.calls t104 _ _ t105 _ _ y114 t117 _ ?side1 ?side2 ?side3 ?side4 ?side5 A7.out).mono ?_); (case side1 => repeat (first | exact (Kd.R_reads' HO107.out).2.2 | (with_reducible refine Kd.C_alloc ?_ _) | (with_reducible refine Kd.C_drewN ?_ _) | (with_reducible refine Kd.C_drew ?_))); (case side2 => exact (Kd.R_reads' HO107.out).2.1); (case side3 => repeat (first | exact (Kd.R_reads' HO116.out).2.2 | (with_reducible refine Kd.C_alloc ?_ _) | (with_reducible refine Kd.C_drewN ?_ _) | (with_reducible refine Kd.C_drew ?_))); (case side4 => exact (Kd.R_reads' HO116.out).2.1); (case side5 => exact TabW.below HG_.out (by repeat (first | (with_reducible first | exact HB.out | apply bA_ | apply bB_ | apply bC_ | refine below_set ?_ GE109.out) | exact HB.out))); rintro e w21 ⟨v118,rfl,ho0,hb⟩; have n0_ := aM_ (Kd.R_below (by (with_reducible repeat (first | apply rA_ | apply rB_ | apply rC_)); exact HO103.out) hb); have n1_ := aM_ (Kd.R_below (by (with_reducible repeat (first | apply rA_ | apply rB_ | apply rC_)); exact HO107.out) hb); have n2_ := aM_ (Kd.R_elder' (by (with_reducible repeat (first | apply rA_ | apply rB_ | apply rC_)); exact HO112.out) (Kd.R_base ho0) hb); have n3_ := aM_ (Kd.R_elder' (by (with_reducible repeat (first | apply rA_ | apply rB_ | apply rC_)); exact HO116.out) (Kd.R_base ho0) hb); have n4_ := aM_ (Kd.R_lower (Kd.R_new' (Kd.R_new' ho0 (Kd.R_lt (by (with_reducible repeat (first | apply rA_ | apply rB_ | apply rC_)); exact HO112.out))) (Kd.R_lt (by (with_reducible repeat (first | apply rA_ | apply rB_ | apply rC_)); exact HO116.out))) (below_size (by repeat (first | (with_reducible first | exact HB.out | apply bA_ | apply bB_ | apply bC_ | refine below_set ?_ GE109.out) | exact HB.out)))); have n5_ := aM_ (blk_below (g := gb109) (o := .cells #[.int .i64 t104,.slice Ao14 t105.length co14] 24 (0,0)) (by (with_reducible repeat (first | refine blk_drewN ?_ _ | refine blk_drew ?_ | refine blk_alloc ?_ _)); exact BK109.out) hb); have n6_ := aM_ (below_step (by repeat (first | (with_reducible first | exact HB.out | apply bA_ | apply bB_ | apply bC_ | refine below_set ?_ GE109.out) | exact HB.out)) hb); clear HO103; clear HO107; clear HO112; clear HO116; clear BK109; clear HB; have HO103 := n0_; have HO107 := n1_; have HO112 := n2_; have HO116 := n3_; have HO119 := n4_; have BK109 := n5_; have HB := n6_; clear n0_ n1_ n2_ n3_ n4_ n5_ n6_; (try clear hb); (try clear hb2); (try clear hk); (try clear hi); (try clear ho0); obtain ⟨Ao22,co22,eo22⟩ := Kd.R_slice HO119.out; subst eo22))
     go_ret
     exact ⟨by first | rfl | (simp [errW_none,errW_some] <;> rfl) | (simp [*,errW_none,errW_some] <;> rfl),by repeat (first | (with_reducible first | exact HB.out | apply bA_ | apply bB_ | apply bC_ | refine below_set ?_ GE109.out) | exact HB.out)⟩
    ·rw [if_neg c6] at H
     have c6b0 : ((t110.length : Int) == 3) = false := beq_eq_false_iff_ne.mpr c6
     have c6b1 : ((t110.length : Int) != 3) = true := bne_iff_ne.mpr c6
     obtain rfl := Option.some.inj H
     go_enter Tryd.func30,Tryd.ntmps30
     go_wp2_with (first | ((with_reducible refine gate_dst (N := 9) rfl ?_); (try (refine gate_guard (by rfl) ?_; dsimp only)); refine Kd.R_lit k53 _ 53 ?hg (N := 9) ?hd (xs := ([(⟨1,2⟩ : S53),(⟨0,1⟩ : S53),(⟨1,2⟩ : S53)] : List (S53))) (inner := [.int .i64 1,.int .i64 2,.int .i64 0,.int .i64 1,.int .i64 1,.int .i64 2]) (ok := fun _ => True) (okp := fun _ => True) ?hr ?hp (fun _ hk => hk) trivial (Below.refl _ _) (Nat.le_refl _) (by simp) ?_; (case hd => rfl); (case hg => rfl); (case hr => first | (go_simp; done) | (go_simp; rfl)); (case hp => exact (Reps.c2 (show Kd.M k53 _ _ _ (⟨1,2⟩ : S53) [.int .i64 1,.int .i64 2] from (k53_mkM _ _ _ (⟨1,2⟩ : S53) )) (Reps.c2 (show Kd.M k53 _ _ _ (⟨0,1⟩ : S53) [.int .i64 0,.int .i64 1] from (k53_mkM _ _ _ (⟨0,1⟩ : S53) )) (Reps.c2 (show Kd.M k53 _ _ _ (⟨1,2⟩ : S53) [.int .i64 1,.int .i64 2] from (k53_mkM _ _ _ (⟨1,2⟩ : S53) )) (Reps.none _ _))))); intro v102 w23 ho24 hb hg_ hnew_; clear hg_ hnew_; (first | rw [← Ny101.out] at ho24 | (simp only [Int.reduceToNat] at ho24; rw [← Ny101.out] at ho24)); have n0_ := aM_ (Kd.R_lower ho24 (below_size (by repeat (first | (with_reducible first | exact HB.out | apply bA_ | apply bB_ | apply bC_) | exact HB.out)))); have n1_ := aM_ (below_step (by repeat (first | (with_reducible first | exact HB.out | apply bA_ | apply bB_ | apply bC_) | exact HB.out)) hb); clear HB; have HO103 := n0_; have HB := n1_; clear n0_ n1_; clear hb ho24; obtain ⟨Ao25,co25,eo25⟩ := Kd.R_slice HO103.out; subst eo25) | ((with_reducible refine gate_callee (f := 31) rfl ?_); refine goesL_ (some 10) rfl rfl Tryd.func31 (by kernel_rfl) rfl #[.int .i64 3,.slice Ao25 y101.length co25] rfl (by (try simp only [List.map_toArray,List.map_cons,List.map_nil]); first | done | rfl | (simp only [List.length_drop,List.length_take]; rfl)) ?_; (with_reducible refine (graph_Make.calls 3 _ _ y101 t104 t105 t108 _ ?side1 ?side2 A1.out).mono ?_); (case side1 => repeat (first | exact (Kd.R_reads' HO103.out).2.2 | (with_reducible refine Kd.C_alloc ?_ _) | (with_reducible refine Kd.C_drewN ?_ _) | (with_reducible refine Kd.C_drew ?_))); (case side2 => exact (Kd.R_reads' HO103.out).2.1); rintro e w26 ⟨v106,rfl,ho0,hb⟩; refine ⟨_,rfl,?_⟩; have n0_ := aM_ (Kd.R_elder' (by (with_reducible repeat (first | apply rA_ | apply rB_ | apply rC_)); exact HO103.out) (Kd.R_base ho0) hb); have n1_ := aM_ (Kd.R_lower (Kd.R_new' ho0 (Kd.R_lt (by (with_reducible repeat (first | apply rA_ | apply rB_ | apply rC_)); exact HO103.out))) (below_size (by repeat (first | (with_reducible first | exact HB.out | apply bA_ | apply bB_ | apply bC_) | exact HB.out)))); have n2_ := aM_ (below_step (by repeat (first | (with_reducible first | exact HB.out | apply bA_ | apply bB_ | apply bC_) | exact HB.out)) hb); clear HO103; clear HB; have HO103 := n0_; have HO107 := n1_; have HB := n2_; clear n0_ n1_ n2_; (try clear hb); (try clear hb2); (try clear hk); (try clear hi); (try clear ho0)) | ((with_reducible refine gate_dst (N := 1) rfl ?_); (try (refine gate_guard (by rfl) ?_; dsimp only)); refine box_event ?hg (N := 1) ?hd (cs := #[.int .i64 0,.slice none 0 0]) (t := 24) ?hr ?_; (case hd => rfl); (case hg => rfl); (case hr => first | (go_simp; done) | (go_simp; rfl)); intro gb109 hg w27 hbox hb; have n0_ := aM_ (Kd.R_below (by (with_reducible repeat (first | apply rA_ | apply rB_ | apply rC_)); exact HO103.out) hb); have n1_ := aM_ (Kd.R_below (by (with_reducible repeat (first | apply rA_ | apply rB_ | apply rC_)); exact HO107.out) hb); have n2_ := aM_ (below_step (by repeat (first | (with_reducible first | exact HB.out | apply bA_ | apply bB_ | apply bC_) | exact HB.out)) hb); have n3_ := aM_ (hbox); have n4_ := aM_ ((by rw [hg]; exact (below_size (by repeat (first | (with_reducible first | exact HB.out | apply bA_ | apply bB_ | apply bC_) | exact HB.out))) : w.heap.size ≤ gb109)); have n5_ := aM_ ((by rw [hg]; exact (below_size (by repeat (first | (with_reducible first | exact HB.out | apply bA_ | apply bB_ | apply bC_) | exact HB.out))) : w.heap.size ≤ gb109)); clear HO103; clear HO107; clear HB; have HO103 := n0_; have HO107 := n1_; have HB := n2_; have BK109 := n3_; have GW109 := n4_; have GE109 := n5_; clear n0_ n1_ n2_ n3_ n4_ n5_; clear hb hbox hg; have hcz28_0 : w27.cell? ⟨gb109,0,none⟩ = some (.int .i64 0) := (blk_cell BK109.out 0).trans rfl; have hcz28_1 : w27.cell? ⟨gb109,1,none⟩ = some (.slice none 0 0) := (blk_cell BK109.out 1).trans rfl; have hfz28_0 := blk_frozen BK109.out 0; have hfz28_1 := blk_frozen BK109.out 1; obtain ⟨Ao29,co29,eo29⟩ := Kd.R_slice HO107.out; subst eo29) | ((with_reducible refine gate_callee (f := 40) rfl ?_); refine goesL_ (some 15) rfl rfl Tryd.func40 (by kernel_rfl) rfl #[.agg #[.int .i64 t104,.slice Ao29 t105.length co29],.int .i64 0,.int .i64 2] rfl (by (try simp only [List.map_toArray,List.map_cons,List.map_nil]); first | done | rfl | (simp only [List.length_drop,List.length_take]; rfl)) ?_; (with_reducible refine (graph_Path.calls t104 _ _ t105 0 2 t110 true _ ?side1 ?side2 A2.out).mono ?_); (case side1 => refine (Kd.R_reads' (e := 53) (base := w.heap.size) (ok := fun k_ => (True ∧ some k_ ≠ (.slice Ao25 y101.length co25 : Value).ownBlock)) (n := t105.length) (c := co29) ?_).2.2; exact (by (with_reducible repeat (first | apply rA_ | apply rB_ | apply rC_)); exact (Kd.R_mono (Kd.R_far (p := ⟨gb109,1,none⟩) (Kd.R_far (p := ⟨gb109,0,none⟩) (Kd.R_types HO107.out BK109.out (by decide)) (fun _ hk => hk.2) (.int .i64 t104)) (fun _ hk => hk.2) (.slice Ao29 t105.length co29)) (fun _ h_ => h_.1)))); (case side2 => exact (Kd.R_reads' HO107.out).2.1); rintro e w30 ⟨v111,rfl,ho0,hb⟩; refine ⟨_,rfl,?_⟩; have n0_ := aM_ (Kd.R_below (by (with_reducible repeat (first | apply rA_ | apply rB_ | apply rC_)); exact (Kd.R_mono (Kd.R_far (p := ⟨gb109,1,none⟩) (Kd.R_far (p := ⟨gb109,0,none⟩) (Kd.R_types HO103.out BK109.out (by decide)) (fun _ hk => hk.2) (.int .i64 t104)) (fun _ hk => hk.2) (.slice Ao29 t105.length co29)) (fun _ h_ => h_.1))) hb); have n1_ := aM_ (Kd.R_below (by (with_reducible repeat (first | apply rA_ | apply rB_ | apply rC_)); exact (Kd.R_mono (Kd.R_far (p := ⟨gb109,1,none⟩) (Kd.R_far (p := ⟨gb109,0,none⟩) (Kd.R_types HO107.out BK109.out (by decide)) (fun _ hk => hk.2) (.int .i64 t104)) (fun _ hk => hk.2) (.slice Ao29 t105.length co29)) (fun _ h_ => h_.1))) hb); have n2_ := aM_ (Kd.R_lower ho0 (below_size (by repeat (first | (with_reducible first | exact HB.out | apply bA_ | apply bB_ | apply bC_ | refine below_set ?_ GE109.out) | exact HB.out)))); have n3_ := aM_ (blk_below (g := gb109) (o := .cells #[.int .i64 t104,.slice Ao29 t105.length co29] 24 (0,0)) (by (with_reducible repeat (first | refine blk_drewN ?_ _ | refine blk_drew ?_ | refine blk_alloc ?_ _)); refine blk_put (cs := #[.int .i64 t104,.slice none 0 0]) ?_ 1 _ rfl; (with_reducible repeat (first | refine blk_drewN ?_ _ | refine blk_drew ?_ | refine blk_alloc ?_ _)); refine blk_put (cs := #[.int .i64 0,.slice none 0 0]) ?_ 0 _ rfl; (with_reducible repeat (first | refine blk_drewN ?_ _ | refine blk_drew ?_ | refine blk_alloc ?_ _)); exact BK109.out) hb); have n4_ := aM_ (below_step (by repeat (first | (with_reducible first | exact HB.out | apply bA_ | apply bB_ | apply bC_ | refine below_set ?_ GE109.out) | exact HB.out)) hb); clear HO103; clear HO107; clear BK109; clear HB; have HO103 := n0_; have HO107 := n1_; have HO112 := n2_; have BK109 := n3_; have HB := n4_; clear n0_ n1_ n2_ n3_ n4_; (try clear hb); (try clear hb2); (try clear hk); (try clear hi); (try clear ho0); have hcz31_0 : w30.cell? ⟨gb109,0,none⟩ = some (.int .i64 t104) := (blk_cell BK109.out 0).trans rfl; have hcz31_1 : w30.cell? ⟨gb109,1,none⟩ = some (.slice Ao29 t105.length co29) := (blk_cell BK109.out 1).trans rfl; have hfz31_0 := blk_frozen BK109.out 0; have hfz31_1 := blk_frozen BK109.out 1; obtain ⟨Ao32,co32,eo32⟩ := Kd.R_slice HO112.out; subst eo32))
     go_ret
     exact ⟨by first | rfl | (simp [errW_none,errW_some] <;> rfl) | (simp [*,errW_none,errW_some] <;> rfl),by repeat (first | (with_reducible first | exact HB.out | apply bA_ | apply bB_ | apply bC_ | refine below_set ?_ GE109.out) | exact HB.out)⟩
   ·replace c5 := Bool.eq_false_iff.mpr c5
    subst c5
    have H1 : (some false) = some r := by rw [if_neg (show ¬ (false = true) by decide)] at H; exact H
    clear H
    have H := H1
    clear H1
    obtain rfl := Option.some.inj H
    go_enter Tryd.func30,Tryd.ntmps30
    go_wp2_with (first | ((with_reducible refine gate_dst (N := 9) rfl ?_); (try (refine gate_guard (by rfl) ?_; dsimp only)); refine Kd.R_lit k53 _ 53 ?hg (N := 9) ?hd (xs := ([(⟨1,2⟩ : S53),(⟨0,1⟩ : S53),(⟨1,2⟩ : S53)] : List (S53))) (inner := [.int .i64 1,.int .i64 2,.int .i64 0,.int .i64 1,.int .i64 1,.int .i64 2]) (ok := fun _ => True) (okp := fun _ => True) ?hr ?hp (fun _ hk => hk) trivial (Below.refl _ _) (Nat.le_refl _) (by simp) ?_; (case hd => rfl); (case hg => rfl); (case hr => first | (go_simp; done) | (go_simp; rfl)); (case hp => exact (Reps.c2 (show Kd.M k53 _ _ _ (⟨1,2⟩ : S53) [.int .i64 1,.int .i64 2] from (k53_mkM _ _ _ (⟨1,2⟩ : S53) )) (Reps.c2 (show Kd.M k53 _ _ _ (⟨0,1⟩ : S53) [.int .i64 0,.int .i64 1] from (k53_mkM _ _ _ (⟨0,1⟩ : S53) )) (Reps.c2 (show Kd.M k53 _ _ _ (⟨1,2⟩ : S53) [.int .i64 1,.int .i64 2] from (k53_mkM _ _ _ (⟨1,2⟩ : S53) )) (Reps.none _ _))))); intro v102 w33 ho34 hb hg_ hnew_; clear hg_ hnew_; (first | rw [← Ny101.out] at ho34 | (simp only [Int.reduceToNat] at ho34; rw [← Ny101.out] at ho34)); have n0_ := aM_ (Kd.R_lower ho34 (below_size (by repeat (first | (with_reducible first | exact HB.out | apply bA_ | apply bB_ | apply bC_) | exact HB.out)))); have n1_ := aM_ (below_step (by repeat (first | (with_reducible first | exact HB.out | apply bA_ | apply bB_ | apply bC_) | exact HB.out)) hb); clear HB; have HO103 := n0_; have HB := n1_; clear n0_ n1_; clear hb ho34; obtain ⟨Ao35,co35,eo35⟩ := Kd.R_slice HO103.out; subst eo35) | ((with_reducible refine gate_callee (f := 31) rfl ?_); refine goesL_ (some 10) rfl rfl Tryd.func31 (by kernel_rfl) rfl #[.int .i64 3,.slice Ao35 y101.length co35] rfl (by (try simp only [List.map_toArray,List.map_cons,List.map_nil]); first | done | rfl | (simp only [List.length_drop,List.length_take]; rfl)) ?_; (with_reducible refine (graph_Make.calls 3 _ _ y101 t104 t105 t108 _ ?side1 ?side2 A1.out).mono ?_); (case side1 => repeat (first | exact (Kd.R_reads' HO103.out).2.2 | (with_reducible refine Kd.C_alloc ?_ _) | (with_reducible refine Kd.C_drewN ?_ _) | (with_reducible refine Kd.C_drew ?_))); (case side2 => exact (Kd.R_reads' HO103.out).2.1); rintro e w36 ⟨v106,rfl,ho0,hb⟩; refine ⟨_,rfl,?_⟩; have n0_ := aM_ (Kd.R_elder' (by (with_reducible repeat (first | apply rA_ | apply rB_ | apply rC_)); exact HO103.out) (Kd.R_base ho0) hb); have n1_ := aM_ (Kd.R_lower (Kd.R_new' ho0 (Kd.R_lt (by (with_reducible repeat (first | apply rA_ | apply rB_ | apply rC_)); exact HO103.out))) (below_size (by repeat (first | (with_reducible first | exact HB.out | apply bA_ | apply bB_ | apply bC_) | exact HB.out)))); have n2_ := aM_ (below_step (by repeat (first | (with_reducible first | exact HB.out | apply bA_ | apply bB_ | apply bC_) | exact HB.out)) hb); clear HO103; clear HB; have HO103 := n0_; have HO107 := n1_; have HB := n2_; clear n0_ n1_ n2_; (try clear hb); (try clear hb2); (try clear hk); (try clear hi); (try clear ho0)) | ((with_reducible refine gate_dst (N := 1) rfl ?_); (try (refine gate_guard (by rfl) ?_; dsimp only)); refine box_event ?hg (N := 1) ?hd (cs := #[.int .i64 0,.slice none 0 0]) (t := 24) ?hr ?_; (case hd => rfl); (case hg => rfl); (case hr => first | (go_simp; done) | (go_simp; rfl)); intro gb109 hg w37 hbox hb; have n0_ := aM_ (Kd.R_below (by (with_reducible repeat (first | apply rA_ | apply rB_ | apply rC_)); exact HO103.out) hb); have n1_ := aM_ (Kd.R_below (by (with_reducible repeat (first | apply rA_ | apply rB_ | apply rC_)); exact HO107.out) hb); have n2_ := aM_ (below_step (by repeat (first | (with_reducible first | exact HB.out | apply bA_ | apply bB_ | apply bC_) | exact HB.out)) hb); have n3_ := aM_ (hbox); have n4_ := aM_ ((by rw [hg]; exact (below_size (by repeat (first | (with_reducible first | exact HB.out | apply bA_ | apply bB_ | apply bC_) | exact HB.out))) : w.heap.size ≤ gb109)); have n5_ := aM_ ((by rw [hg]; exact (below_size (by repeat (first | (with_reducible first | exact HB.out | apply bA_ | apply bB_ | apply bC_) | exact HB.out))) : w.heap.size ≤ gb109)); clear HO103; clear HO107; clear HB; have HO103 := n0_; have HO107 := n1_; have HB := n2_; have BK109 := n3_; have GW109 := n4_; have GE109 := n5_; clear n0_ n1_ n2_ n3_ n4_ n5_; clear hb hbox hg; have hcz38_0 : w37.cell? ⟨gb109,0,none⟩ = some (.int .i64 0) := (blk_cell BK109.out 0).trans rfl; have hcz38_1 : w37.cell? ⟨gb109,1,none⟩ = some (.slice none 0 0) := (blk_cell BK109.out 1).trans rfl; have hfz38_0 := blk_frozen BK109.out 0; have hfz38_1 := blk_frozen BK109.out 1; obtain ⟨Ao39,co39,eo39⟩ := Kd.R_slice HO107.out; subst eo39) | ((with_reducible refine gate_callee (f := 40) rfl ?_); refine goesL_ (some 15) rfl rfl Tryd.func40 (by kernel_rfl) rfl #[.agg #[.int .i64 t104,.slice Ao39 t105.length co39],.int .i64 0,.int .i64 2] rfl (by (try simp only [List.map_toArray,List.map_cons,List.map_nil]); first | done | rfl | (simp only [List.length_drop,List.length_take]; rfl)) ?_; (with_reducible refine (graph_Path.calls t104 _ _ t105 0 2 t110 false _ ?side1 ?side2 A2.out).mono ?_); (case side1 => refine (Kd.R_reads' (e := 53) (base := w.heap.size) (ok := fun k_ => (True ∧ some k_ ≠ (.slice Ao35 y101.length co35 : Value).ownBlock)) (n := t105.length) (c := co39) ?_).2.2; exact (by (with_reducible repeat (first | apply rA_ | apply rB_ | apply rC_)); exact (Kd.R_mono (Kd.R_far (p := ⟨gb109,1,none⟩) (Kd.R_far (p := ⟨gb109,0,none⟩) (Kd.R_types HO107.out BK109.out (by decide)) (fun _ hk => hk.2) (.int .i64 t104)) (fun _ hk => hk.2) (.slice Ao39 t105.length co39)) (fun _ h_ => h_.1)))); (case side2 => exact (Kd.R_reads' HO107.out).2.1); rintro e w40 ⟨v111,rfl,ho0,hb⟩; refine ⟨_,rfl,?_⟩; have n0_ := aM_ (Kd.R_below (by (with_reducible repeat (first | apply rA_ | apply rB_ | apply rC_)); exact (Kd.R_mono (Kd.R_far (p := ⟨gb109,1,none⟩) (Kd.R_far (p := ⟨gb109,0,none⟩) (Kd.R_types HO103.out BK109.out (by decide)) (fun _ hk => hk.2) (.int .i64 t104)) (fun _ hk => hk.2) (.slice Ao39 t105.length co39)) (fun _ h_ => h_.1))) hb); have n1_ := aM_ (Kd.R_below (by (with_reducible repeat (first | apply rA_ | apply rB_ | apply rC_)); exact (Kd.R_mono (Kd.R_far (p := ⟨gb109,1,none⟩) (Kd.R_far (p := ⟨gb109,0,none⟩) (Kd.R_types HO107.out BK109.out (by decide)) (fun _ hk => hk.2) (.int .i64 t104)) (fun _ hk => hk.2) (.slice Ao39 t105.length co39)) (fun _ h_ => h_.1))) hb); have n2_ := aM_ (Kd.R_lower ho0 (below_size (by repeat (first | (with_reducible first | exact HB.out | apply bA_ | apply bB_ | apply bC_ | refine below_set ?_ GE109.out) | exact HB.out)))); have n3_ := aM_ (blk_below (g := gb109) (o := .cells #[.int .i64 t104,.slice Ao39 t105.length co39] 24 (0,0)) (by (with_reducible repeat (first | refine blk_drewN ?_ _ | refine blk_drew ?_ | refine blk_alloc ?_ _)); refine blk_put (cs := #[.int .i64 t104,.slice none 0 0]) ?_ 1 _ rfl; (with_reducible repeat (first | refine blk_drewN ?_ _ | refine blk_drew ?_ | refine blk_alloc ?_ _)); refine blk_put (cs := #[.int .i64 0,.slice none 0 0]) ?_ 0 _ rfl; (with_reducible repeat (first | refine blk_drewN ?_ _ | refine blk_drew ?_ | refine blk_alloc ?_ _)); exact BK109.out) hb); have n4_ := aM_ (below_step (by repeat (first | (with_reducible first | exact HB.out | apply bA_ | apply bB_ | apply bC_ | refine below_set ?_ GE109.out) | exact HB.out)) hb); clear HO103; clear HO107; clear BK109; clear HB; have HO103 := n0_; have HO107 := n1_; have HO112 := n2_; have BK109 := n3_; have HB := n4_; clear n0_ n1_ n2_ n3_ n4_; (try clear hb); (try clear hb2); (try clear hk); (try clear hi); (try clear ho0); have hcz41_0 : w40.cell? ⟨gb109,0,none⟩ = some (.int .i64 t104) := (blk_cell BK109.out 0).trans rfl; have hcz41_1 : w40.cell? ⟨gb109,1,none⟩ = some (.slice Ao39 t105.length co39) := (blk_cell BK109.out 1).trans rfl; have hfz41_0 := blk_frozen BK109.out 0; have hfz41_1 := blk_frozen BK109.out 1))
    go_ret
    exact ⟨by first | rfl | (simp [errW_none,errW_some] <;> rfl) | (simp [*,errW_none,errW_some] <;> rfl),by repeat (first | (with_reducible first | exact HB.out | apply bA_ | apply bB_ | apply bC_ | refine below_set ?_ GE109.out) | exact HB.out)⟩
  ·rw [if_neg c4] at H
   have c4b0 : ((t105.length : Int) == 2) = false := beq_eq_false_iff_ne.mpr c4
   have c4b1 : ((t105.length : Int) != 2) = true := bne_iff_ne.mpr c4
   obtain rfl := Option.some.inj H
   go_enter Tryd.func30,Tryd.ntmps30
   go_wp2_with (first | ((with_reducible refine gate_dst (N := 9) rfl ?_); (try (refine gate_guard (by rfl) ?_; dsimp only)); refine Kd.R_lit k53 _ 53 ?hg (N := 9) ?hd (xs := ([(⟨1,2⟩ : S53),(⟨0,1⟩ : S53),(⟨1,2⟩ : S53)] : List (S53))) (inner := [.int .i64 1,.int .i64 2,.int .i64 0,.int .i64 1,.int .i64 1,.int .i64 2]) (ok := fun _ => True) (okp := fun _ => True) ?hr ?hp (fun _ hk => hk) trivial (Below.refl _ _) (Nat.le_refl _) (by simp) ?_; (case hd => rfl); (case hg => rfl); (case hr => first | (go_simp; done) | (go_simp; rfl)); (case hp => exact (Reps.c2 (show Kd.M k53 _ _ _ (⟨1,2⟩ : S53) [.int .i64 1,.int .i64 2] from (k53_mkM _ _ _ (⟨1,2⟩ : S53) )) (Reps.c2 (show Kd.M k53 _ _ _ (⟨0,1⟩ : S53) [.int .i64 0,.int .i64 1] from (k53_mkM _ _ _ (⟨0,1⟩ : S53) )) (Reps.c2 (show Kd.M k53 _ _ _ (⟨1,2⟩ : S53) [.int .i64 1,.int .i64 2] from (k53_mkM _ _ _ (⟨1,2⟩ : S53) )) (Reps.none _ _))))); intro v102 w42 ho43 hb hg_ hnew_; clear hg_ hnew_; (first | rw [← Ny101.out] at ho43 | (simp only [Int.reduceToNat] at ho43; rw [← Ny101.out] at ho43)); have n0_ := aM_ (Kd.R_lower ho43 (below_size (by repeat (first | (with_reducible first | exact HB.out | apply bA_ | apply bB_ | apply bC_) | exact HB.out)))); have n1_ := aM_ (below_step (by repeat (first | (with_reducible first | exact HB.out | apply bA_ | apply bB_ | apply bC_) | exact HB.out)) hb); clear HB; have HO103 := n0_; have HB := n1_; clear n0_ n1_; clear hb ho43; obtain ⟨Ao44,co44,eo44⟩ := Kd.R_slice HO103.out; subst eo44) | ((with_reducible refine gate_callee (f := 31) rfl ?_); refine goesL_ (some 10) rfl rfl Tryd.func31 (by kernel_rfl) rfl #[.int .i64 3,.slice Ao44 y101.length co44] rfl (by (try simp only [List.map_toArray,List.map_cons,List.map_nil]); first | done | rfl | (simp only [List.length_drop,List.length_take]; rfl)) ?_; (with_reducible refine (graph_Make.calls 3 _ _ y101 t104 t105 t108 _ ?side1 ?side2 A1.out).mono ?_); (case side1 => repeat (first | exact (Kd.R_reads' HO103.out).2.2 | (with_reducible refine Kd.C_alloc ?_ _) | (with_reducible refine Kd.C_drewN ?_ _) | (with_reducible refine Kd.C_drew ?_))); (case side2 => exact (Kd.R_reads' HO103.out).2.1); rintro e w45 ⟨v106,rfl,ho0,hb⟩; refine ⟨_,rfl,?_⟩; have n0_ := aM_ (Kd.R_elder' (by (with_reducible repeat (first | apply rA_ | apply rB_ | apply rC_)); exact HO103.out) (Kd.R_base ho0) hb); have n1_ := aM_ (Kd.R_lower (Kd.R_new' ho0 (Kd.R_lt (by (with_reducible repeat (first | apply rA_ | apply rB_ | apply rC_)); exact HO103.out))) (below_size (by repeat (first | (with_reducible first | exact HB.out | apply bA_ | apply bB_ | apply bC_) | exact HB.out)))); have n2_ := aM_ (below_step (by repeat (first | (with_reducible first | exact HB.out | apply bA_ | apply bB_ | apply bC_) | exact HB.out)) hb); clear HO103; clear HB; have HO103 := n0_; have HO107 := n1_; have HB := n2_; clear n0_ n1_ n2_; (try clear hb); (try clear hb2); (try clear hk); (try clear hi); (try clear ho0)) | ((with_reducible refine gate_dst (N := 1) rfl ?_); (try (refine gate_guard (by rfl) ?_; dsimp only)); refine box_event ?hg (N := 1) ?hd (cs := #[.int .i64 0,.slice none 0 0]) (t := 24) ?hr ?_; (case hd => rfl); (case hg => rfl); (case hr => first | (go_simp; done) | (go_simp; rfl)); intro gb109 hg w46 hbox hb; have n0_ := aM_ (Kd.R_below (by (with_reducible repeat (first | apply rA_ | apply rB_ | apply rC_)); exact HO103.out) hb); have n1_ := aM_ (Kd.R_below (by (with_reducible repeat (first | apply rA_ | apply rB_ | apply rC_)); exact HO107.out) hb); have n2_ := aM_ (below_step (by repeat (first | (with_reducible first | exact HB.out | apply bA_ | apply bB_ | apply bC_) | exact HB.out)) hb); have n3_ := aM_ (hbox); have n4_ := aM_ ((by rw [hg]; exact (below_size (by repeat (first | (with_reducible first | exact HB.out | apply bA_ | apply bB_ | apply bC_) | exact HB.out))) : w.heap.size ≤ gb109)); have n5_ := aM_ ((by rw [hg]; exact (below_size (by repeat (first | (with_reducible first | exact HB.out | apply bA_ | apply bB_ | apply bC_) | exact HB.out))) : w.heap.size ≤ gb109)); clear HO103; clear HO107; clear HB; have HO103 := n0_; have HO107 := n1_; have HB := n2_; have BK109 := n3_; have GW109 := n4_; have GE109 := n5_; clear n0_ n1_ n2_ n3_ n4_ n5_; clear hb hbox hg; have hcz47_0 : w46.cell? ⟨gb109,0,none⟩ = some (.int .i64 0) := (blk_cell BK109.out 0).trans rfl; have hcz47_1 : w46.cell? ⟨gb109,1,none⟩ = some (.slice none 0 0) := (blk_cell BK109.out 1).trans rfl; have hfz47_0 := blk_frozen BK109.out 0; have hfz47_1 := blk_frozen BK109.out 1; obtain ⟨Ao48,co48,eo48⟩ := Kd.R_slice HO107.out; subst eo48) | ((with_reducible refine gate_callee (f := 40) rfl ?_); refine goesL_ (some 15) rfl rfl Tryd.func40 (by kernel_rfl) rfl #[.agg #[.int .i64 t104,.slice Ao48 t105.length co48],.int .i64 0,.int .i64 2] rfl (by (try simp only [List.map_toArray,List.map_cons,List.map_nil]); first | done | rfl | (simp only [List.length_drop,List.length_take]; rfl)) ?_; (with_reducible refine (graph_Path.calls t104 _ _ t105 0 2 t110 t113 _ ?side1 ?side2 A2.out).mono ?_); (case side1 => refine (Kd.R_reads' (e := 53) (base := w.heap.size) (ok := fun k_ => (True ∧ some k_ ≠ (.slice Ao44 y101.length co44 : Value).ownBlock)) (n := t105.length) (c := co48) ?_).2.2; exact (by (with_reducible repeat (first | apply rA_ | apply rB_ | apply rC_)); exact (Kd.R_mono (Kd.R_far (p := ⟨gb109,1,none⟩) (Kd.R_far (p := ⟨gb109,0,none⟩) (Kd.R_types HO107.out BK109.out (by decide)) (fun _ hk => hk.2) (.int .i64 t104)) (fun _ hk => hk.2) (.slice Ao48 t105.length co48)) (fun _ h_ => h_.1)))); (case side2 => exact (Kd.R_reads' HO107.out).2.1); rintro e w49 ⟨v111,rfl,ho0,hb⟩; refine ⟨_,rfl,?_⟩; have n0_ := aM_ (Kd.R_below (by (with_reducible repeat (first | apply rA_ | apply rB_ | apply rC_)); exact (Kd.R_mono (Kd.R_far (p := ⟨gb109,1,none⟩) (Kd.R_far (p := ⟨gb109,0,none⟩) (Kd.R_types HO103.out BK109.out (by decide)) (fun _ hk => hk.2) (.int .i64 t104)) (fun _ hk => hk.2) (.slice Ao48 t105.length co48)) (fun _ h_ => h_.1))) hb); have n1_ := aM_ (Kd.R_below (by (with_reducible repeat (first | apply rA_ | apply rB_ | apply rC_)); exact (Kd.R_mono (Kd.R_far (p := ⟨gb109,1,none⟩) (Kd.R_far (p := ⟨gb109,0,none⟩) (Kd.R_types HO107.out BK109.out (by decide)) (fun _ hk => hk.2) (.int .i64 t104)) (fun _ hk => hk.2) (.slice Ao48 t105.length co48)) (fun _ h_ => h_.1))) hb); have n2_ := aM_ (Kd.R_lower ho0 (below_size (by repeat (first | (with_reducible first | exact HB.out | apply bA_ | apply bB_ | apply bC_ | refine below_set ?_ GE109.out) | exact HB.out)))); have n3_ := aM_ (blk_below (g := gb109) (o := .cells #[.int .i64 t104,.slice Ao48 t105.length co48] 24 (0,0)) (by (with_reducible repeat (first | refine blk_drewN ?_ _ | refine blk_drew ?_ | refine blk_alloc ?_ _)); refine blk_put (cs := #[.int .i64 t104,.slice none 0 0]) ?_ 1 _ rfl; (with_reducible repeat (first | refine blk_drewN ?_ _ | refine blk_drew ?_ | refine blk_alloc ?_ _)); refine blk_put (cs := #[.int .i64 0,.slice none 0 0]) ?_ 0 _ rfl; (with_reducible repeat (first | refine blk_drewN ?_ _ | refine blk_drew ?_ | refine blk_alloc ?_ _)); exact BK109.out) hb); have n4_ := aM_ (below_step (by repeat (first | (with_reducible first | exact HB.out | apply bA_ | apply bB_ | apply bC_ | refine below_set ?_ GE109.out) | exact HB.out)) hb); clear HO103; clear HO107; clear BK109; clear HB; have HO103 := n0_; have HO107 := n1_; have HO112 := n2_; have BK109 := n3_; have HB := n4_; clear n0_ n1_ n2_ n3_ n4_; (try clear hb); (try clear hb2); (try clear hk); (try clear hi); (try clear ho0); have hcz50_0 : w49.cell? ⟨gb109,0,none⟩ = some (.int .i64 t104) := (blk_cell BK109.out 0).trans rfl; have hcz50_1 : w49.cell? ⟨gb109,1,none⟩ = some (.slice Ao48 t105.length co48) := (blk_cell BK109.out 1).trans rfl; have hfz50_0 := blk_frozen BK109.out 0; have hfz50_1 := blk_frozen BK109.out 1))
   go_ret
   exact ⟨by first | rfl | (simp [errW_none,errW_some] <;> rfl) | (simp [*,errW_none,errW_some] <;> rfl),by repeat (first | (with_reducible first | exact HB.out | apply bA_ | apply bB_ | apply bC_ | refine below_set ?_ GE109.out) | exact HB.out)⟩
 ·rw [if_neg c3] at H
  have c3b0 : (t108 == 0) = false := beq_eq_false_iff_ne.mpr c3
  have c3b1 : (t108 != 0) = true := bne_iff_ne.mpr c3
  obtain rfl := Option.some.inj H
  go_enter Tryd.func30,Tryd.ntmps30
  go_wp2_with (first | ((with_reducible refine gate_dst (N := 9) rfl ?_); (try (refine gate_guard (by rfl) ?_; dsimp only)); refine Kd.R_lit k53 _ 53 ?hg (N := 9) ?hd (xs := ([(⟨1,2⟩ : S53),(⟨0,1⟩ : S53),(⟨1,2⟩ : S53)] : List (S53))) (inner := [.int .i64 1,.int .i64 2,.int .i64 0,.int .i64 1,.int .i64 1,.int .i64 2]) (ok := fun _ => True) (okp := fun _ => True) ?hr ?hp (fun _ hk => hk) trivial (Below.refl _ _) (Nat.le_refl _) (by simp) ?_; (case hd => rfl); (case hg => rfl); (case hr => first | (go_simp; done) | (go_simp; rfl)); (case hp => exact (Reps.c2 (show Kd.M k53 _ _ _ (⟨1,2⟩ : S53) [.int .i64 1,.int .i64 2] from (k53_mkM _ _ _ (⟨1,2⟩ : S53) )) (Reps.c2 (show Kd.M k53 _ _ _ (⟨0,1⟩ : S53) [.int .i64 0,.int .i64 1] from (k53_mkM _ _ _ (⟨0,1⟩ : S53) )) (Reps.c2 (show Kd.M k53 _ _ _ (⟨1,2⟩ : S53) [.int .i64 1,.int .i64 2] from (k53_mkM _ _ _ (⟨1,2⟩ : S53) )) (Reps.none _ _))))); intro v102 w51 ho52 hb hg_ hnew_; clear hg_ hnew_; (first | rw [← Ny101.out] at ho52 | (simp only [Int.reduceToNat] at ho52; rw [← Ny101.out] at ho52)); have n0_ := aM_ (Kd.R_lower ho52 (below_size (by repeat (first | (with_reducible first | exact HB.out | apply bA_ | apply bB_ | apply bC_) | exact HB.out)))); have n1_ := aM_ (below_step (by repeat (first | (with_reducible first | exact HB.out | apply bA_ | apply bB_ | apply bC_) | exact HB.out)) hb); clear HB; have HO103 := n0_; have HB := n1_; clear n0_ n1_; clear hb ho52; obtain ⟨Ao53,co53,eo53⟩ := Kd.R_slice HO103.out; subst eo53) | ((with_reducible refine gate_callee (f := 31) rfl ?_); refine goesL_ (some 10) rfl rfl Tryd.func31 (by kernel_rfl) rfl #[.int .i64 3,.slice Ao53 y101.length co53] rfl (by (try simp only [List.map_toArray,List.map_cons,List.map_nil]); first | done | rfl | (simp only [List.length_drop,List.length_take]; rfl)) ?_; (with_reducible refine (graph_Make.calls 3 _ _ y101 t104 t105 t108 _ ?side1 ?side2 A1.out).mono ?_); (case side1 => repeat (first | exact (Kd.R_reads' HO103.out).2.2 | (with_reducible refine Kd.C_alloc ?_ _) | (with_reducible refine Kd.C_drewN ?_ _) | (with_reducible refine Kd.C_drew ?_))); (case side2 => exact (Kd.R_reads' HO103.out).2.1); rintro e w54 ⟨v106,rfl,ho0,hb⟩; refine ⟨_,rfl,?_⟩; have n0_ := aM_ (Kd.R_elder' (by (with_reducible repeat (first | apply rA_ | apply rB_ | apply rC_)); exact HO103.out) (Kd.R_base ho0) hb); have n1_ := aM_ (Kd.R_lower (Kd.R_new' ho0 (Kd.R_lt (by (with_reducible repeat (first | apply rA_ | apply rB_ | apply rC_)); exact HO103.out))) (below_size (by repeat (first | (with_reducible first | exact HB.out | apply bA_ | apply bB_ | apply bC_) | exact HB.out)))); have n2_ := aM_ (below_step (by repeat (first | (with_reducible first | exact HB.out | apply bA_ | apply bB_ | apply bC_) | exact HB.out)) hb); clear HO103; clear HB; have HO103 := n0_; have HO107 := n1_; have HB := n2_; clear n0_ n1_ n2_; (try clear hb); (try clear hb2); (try clear hk); (try clear hi); (try clear ho0)) | ((with_reducible refine gate_dst (N := 1) rfl ?_); (try (refine gate_guard (by rfl) ?_; dsimp only)); refine box_event ?hg (N := 1) ?hd (cs := #[.int .i64 0,.slice none 0 0]) (t := 24) ?hr ?_; (case hd => rfl); (case hg => rfl); (case hr => first | (go_simp; done) | (go_simp; rfl)); intro gb109 hg w55 hbox hb; have n0_ := aM_ (Kd.R_below (by (with_reducible repeat (first | apply rA_ | apply rB_ | apply rC_)); exact HO103.out) hb); have n1_ := aM_ (Kd.R_below (by (with_reducible repeat (first | apply rA_ | apply rB_ | apply rC_)); exact HO107.out) hb); have n2_ := aM_ (below_step (by repeat (first | (with_reducible first | exact HB.out | apply bA_ | apply bB_ | apply bC_) | exact HB.out)) hb); have n3_ := aM_ (hbox); have n4_ := aM_ ((by rw [hg]; exact (below_size (by repeat (first | (with_reducible first | exact HB.out | apply bA_ | apply bB_ | apply bC_) | exact HB.out))) : w.heap.size ≤ gb109)); have n5_ := aM_ ((by rw [hg]; exact (below_size (by repeat (first | (with_reducible first | exact HB.out | apply bA_ | apply bB_ | apply bC_) | exact HB.out))) : w.heap.size ≤ gb109)); clear HO103; clear HO107; clear HB; have HO103 := n0_; have HO107 := n1_; have HB := n2_; have BK109 := n3_; have GW109 := n4_; have GE109 := n5_; clear n0_ n1_ n2_ n3_ n4_ n5_; clear hb hbox hg; have hcz56_0 : w55.cell? ⟨gb109,0,none⟩ = some (.int .i64 0) := (blk_cell BK109.out 0).trans rfl; have hcz56_1 : w55.cell? ⟨gb109,1,none⟩ = some (.slice none 0 0) := (blk_cell BK109.out 1).trans rfl; have hfz56_0 := blk_frozen BK109.out 0; have hfz56_1 := blk_frozen BK109.out 1; obtain ⟨Ao57,co57,eo57⟩ := Kd.R_slice HO107.out; subst eo57) | ((with_reducible refine gate_callee (f := 40) rfl ?_); refine goesL_ (some 15) rfl rfl Tryd.func40 (by kernel_rfl) rfl #[.agg #[.int .i64 t104,.slice Ao57 t105.length co57],.int .i64 0,.int .i64 2] rfl (by (try simp only [List.map_toArray,List.map_cons,List.map_nil]); first | done | rfl | (simp only [List.length_drop,List.length_take]; rfl)) ?_; (with_reducible refine (graph_Path.calls t104 _ _ t105 0 2 t110 t113 _ ?side1 ?side2 A2.out).mono ?_); (case side1 => refine (Kd.R_reads' (e := 53) (base := w.heap.size) (ok := fun k_ => (True ∧ some k_ ≠ (.slice Ao53 y101.length co53 : Value).ownBlock)) (n := t105.length) (c := co57) ?_).2.2; exact (by (with_reducible repeat (first | apply rA_ | apply rB_ | apply rC_)); exact (Kd.R_mono (Kd.R_far (p := ⟨gb109,1,none⟩) (Kd.R_far (p := ⟨gb109,0,none⟩) (Kd.R_types HO107.out BK109.out (by decide)) (fun _ hk => hk.2) (.int .i64 t104)) (fun _ hk => hk.2) (.slice Ao57 t105.length co57)) (fun _ h_ => h_.1)))); (case side2 => exact (Kd.R_reads' HO107.out).2.1); rintro e w58 ⟨v111,rfl,ho0,hb⟩; refine ⟨_,rfl,?_⟩; have n0_ := aM_ (Kd.R_below (by (with_reducible repeat (first | apply rA_ | apply rB_ | apply rC_)); exact (Kd.R_mono (Kd.R_far (p := ⟨gb109,1,none⟩) (Kd.R_far (p := ⟨gb109,0,none⟩) (Kd.R_types HO103.out BK109.out (by decide)) (fun _ hk => hk.2) (.int .i64 t104)) (fun _ hk => hk.2) (.slice Ao57 t105.length co57)) (fun _ h_ => h_.1))) hb); have n1_ := aM_ (Kd.R_below (by (with_reducible repeat (first | apply rA_ | apply rB_ | apply rC_)); exact (Kd.R_mono (Kd.R_far (p := ⟨gb109,1,none⟩) (Kd.R_far (p := ⟨gb109,0,none⟩) (Kd.R_types HO107.out BK109.out (by decide)) (fun _ hk => hk.2) (.int .i64 t104)) (fun _ hk => hk.2) (.slice Ao57 t105.length co57)) (fun _ h_ => h_.1))) hb); have n2_ := aM_ (Kd.R_lower ho0 (below_size (by repeat (first | (with_reducible first | exact HB.out | apply bA_ | apply bB_ | apply bC_ | refine below_set ?_ GE109.out) | exact HB.out)))); have n3_ := aM_ (blk_below (g := gb109) (o := .cells #[.int .i64 t104,.slice Ao57 t105.length co57] 24 (0,0)) (by (with_reducible repeat (first | refine blk_drewN ?_ _ | refine blk_drew ?_ | refine blk_alloc ?_ _)); refine blk_put (cs := #[.int .i64 t104,.slice none 0 0]) ?_ 1 _ rfl; (with_reducible repeat (first | refine blk_drewN ?_ _ | refine blk_drew ?_ | refine blk_alloc ?_ _)); refine blk_put (cs := #[.int .i64 0,.slice none 0 0]) ?_ 0 _ rfl; (with_reducible repeat (first | refine blk_drewN ?_ _ | refine blk_drew ?_ | refine blk_alloc ?_ _)); exact BK109.out) hb); have n4_ := aM_ (below_step (by repeat (first | (with_reducible first | exact HB.out | apply bA_ | apply bB_ | apply bC_ | refine below_set ?_ GE109.out) | exact HB.out)) hb); clear HO103; clear HO107; clear BK109; clear HB; have HO103 := n0_; have HO107 := n1_; have HO112 := n2_; have BK109 := n3_; have HB := n4_; clear n0_ n1_ n2_ n3_ n4_; (try clear hb); (try clear hb2); (try clear hk); (try clear hi); (try clear ho0)))
  go_ret
  exact ⟨by first | rfl | (simp [errW_none,errW_some] <;> rfl) | (simp [*,errW_none,errW_some] <;> rfl),by repeat (first | (with_reducible first | exact HB.out | apply bA_ | apply bB_ | apply bC_ | refine below_set ?_ GE109.out) | exact HB.out)⟩
def r4_less.f (a0_0 : Int) (a0_1 : Int) (a1_0 : Int) (a1_1 : Int) : Option (Bool) := if a0_0 < a1_0 then (some true) else (if a0_0 = a1_0 then (some (decide (a0_1 < a1_1))) else (some false))
set_option maxHeartbeats 8000000 in
set_option maxRecDepth 100000 in
theorem r4_less.calls (a0_0 : Int) (a0_1 : Int) (a1_0 : Int) (a1_1 : Int) (r : Bool) (w : World) (h : r4_less.f a0_0 a0_1 a1_0 a1_1 = some r) :
  Calls Tryd.prog 74 #[.agg #[.int .i64 a0_0,.int .i64 a0_1],.agg #[.int .i64 a1_0,.int .i64 a1_1]] w fun e w' => e = .returned (.bool r) ∧ Below w.heap.size w w' := by
 have hu53 := Tryd.underlying53
 have HB := aM_ (Below.refl w.heap.size w)
 have H : (if a0_0 < a1_0 then (some true) else (if a0_0 = a1_0 then (some (decide (a0_1 < a1_1))) else (some false))) = some r := h
 clear h
 by_cases c3 : a0_0 < a1_0
 ·rw [if_pos c3] at H
  have c3b0 : decide (a0_0 < a1_0) = true := decide_eq_true c3
  clear c3
  obtain rfl := Option.some.inj H
  go_enter Tryd.func74,Tryd.ntmps74
  go_wp2_with (first | ((with_reducible refine gate_dst (N := 2) rfl ?_); refine box_event ?hg (N := 2) ?hd (cs := #[.int .i64 a0_0,.int .i64 a0_1]) (t := 53) ?hr ?_; (case hd => rfl); (case hg => rfl); (case hr => first | (go_simp; done) | (go_simp; rfl)); intro gb120 hg w4 hbox hb; have n0_ := aM_ (below_step (by repeat (first | (with_reducible first | exact HB.out | apply bA_ | apply bB_ | apply bC_) | exact HB.out)) hb); have n1_ := aM_ (hbox); have n2_ := aM_ ((by rw [hg]; exact (below_size (by repeat (first | (with_reducible first | exact HB.out | apply bA_ | apply bB_ | apply bC_) | exact HB.out))) : w.heap.size ≤ gb120)); have n3_ := aM_ ((by rw [hg]; exact (below_size (by repeat (first | (with_reducible first | exact HB.out | apply bA_ | apply bB_ | apply bC_) | exact HB.out))) : w.heap.size ≤ gb120)); clear HB; have HB := n0_; have BK120 := n1_; have GW120 := n2_; have GE120 := n3_; clear n0_ n1_ n2_ n3_; clear hb hbox hg) | ((with_reducible refine gate_dst (N := 3) rfl ?_); refine box_event ?hg (N := 3) ?hd (cs := #[.int .i64 a1_0,.int .i64 a1_1]) (t := 53) ?hr ?_; (case hd => rfl); (case hg => rfl); (case hr => first | (go_simp; done) | (go_simp; rfl)); intro gb121 hg w5 hbox hb; have n0_ := aM_ (blk_below (g := gb120) (o := .cells #[.int .i64 a0_0,.int .i64 a0_1] 53 (0,0)) (by (with_reducible repeat (first | refine blk_drewN ?_ _ | refine blk_drew ?_ | refine blk_alloc ?_ _)); exact BK120.out) hb); have n1_ := aM_ (below_step (by repeat (first | (with_reducible first | exact HB.out | apply bA_ | apply bB_ | apply bC_ | refine below_set ?_ GE120.out) | exact HB.out)) hb); have n2_ := aM_ (hbox); have n3_ := aM_ ((by rw [hg]; exact (below_size (by repeat (first | (with_reducible first | exact HB.out | apply bA_ | apply bB_ | apply bC_ | refine below_set ?_ GE120.out) | exact HB.out))) : w.heap.size ≤ gb121)); have n4_ := aM_ ((by rw [hg]; exact (below_size (by repeat (first | (with_reducible first | exact HB.out | apply bA_ | apply bB_ | apply bC_ | refine below_set ?_ GE120.out) | exact HB.out))) : w.heap.size ≤ gb121)); have n5_ := aM_ ((by rw [hg]; exact Nat.ne_of_lt (blk_lt (g := gb120) (o := .cells #[.int .i64 a0_0,.int .i64 a0_1] 53 (0,0)) (by (with_reducible repeat (first | refine blk_drewN ?_ _ | refine blk_drew ?_ | refine blk_alloc ?_ _)); exact BK120.out)) : gb120 ≠ gb121)); have n6_ := aM_ ((by rw [hg]; exact Nat.ne_of_gt (blk_lt (g := gb120) (o := .cells #[.int .i64 a0_0,.int .i64 a0_1] 53 (0,0)) (by (with_reducible repeat (first | refine blk_drewN ?_ _ | refine blk_drew ?_ | refine blk_alloc ?_ _)); exact BK120.out)) : gb121 ≠ gb120)); clear BK120; clear HB; have BK120 := n0_; have HB := n1_; have BK121 := n2_; have GW121 := n3_; have GE121 := n4_; have NB120_121 := n5_; have NB121_120 := n6_; clear n0_ n1_ n2_ n3_ n4_ n5_ n6_; clear hb hbox hg; have hnb6 := NB120_121.out; have hnc6 := NB121_120.out; have hcz7_0 : w5.cell? ⟨gb120,0,none⟩ = some (.int .i64 a0_0) := (blk_cell BK120.out 0).trans rfl; have hcz7_1 : w5.cell? ⟨gb120,1,none⟩ = some (.int .i64 a0_1) := (blk_cell BK120.out 1).trans rfl; have hfz7_0 := blk_frozen BK120.out 0; have hfz7_1 := blk_frozen BK120.out 1; have hcz8_0 : w5.cell? ⟨gb121,0,none⟩ = some (.int .i64 a1_0) := (blk_cell BK121.out 0).trans rfl; have hcz8_1 : w5.cell? ⟨gb121,1,none⟩ = some (.int .i64 a1_1) := (blk_cell BK121.out 1).trans rfl; have hfz8_0 := blk_frozen BK121.out 0; have hfz8_1 := blk_frozen BK121.out 1))
  go_ret
  exact ⟨by first | rfl | (simp [errW_none,errW_some] <;> rfl) | (simp [*,errW_none,errW_some] <;> rfl),by repeat (first | (with_reducible first | exact HB.out | apply bA_ | apply bB_ | apply bC_ | refine below_set ?_ GE120.out | refine below_set ?_ GE121.out) | exact HB.out)⟩
 ·rw [if_neg c3] at H
  have c3b0 : decide (a0_0 < a1_0) = false := decide_eq_false c3
  clear c3
  by_cases c9 : a0_0 = a1_0
  ·rw [if_pos c9] at H
   have c9b0 : (a0_0 == a1_0) = true := beq_iff_eq.mpr c9
   have c9b1 : (a0_0 != a1_0) = false := bne_eq_false_iff_eq.mpr c9
   clear c9
   obtain rfl := Option.some.inj H
   go_enter Tryd.func74,Tryd.ntmps74
   go_wp2_with (first | ((with_reducible refine gate_dst (N := 2) rfl ?_); refine box_event ?hg (N := 2) ?hd (cs := #[.int .i64 a0_0,.int .i64 a0_1]) (t := 53) ?hr ?_; (case hd => rfl); (case hg => rfl); (case hr => first | (go_simp; done) | (go_simp; rfl)); intro gb120 hg w10 hbox hb; have n0_ := aM_ (below_step (by repeat (first | (with_reducible first | exact HB.out | apply bA_ | apply bB_ | apply bC_) | exact HB.out)) hb); have n1_ := aM_ (hbox); have n2_ := aM_ ((by rw [hg]; exact (below_size (by repeat (first | (with_reducible first | exact HB.out | apply bA_ | apply bB_ | apply bC_) | exact HB.out))) : w.heap.size ≤ gb120)); have n3_ := aM_ ((by rw [hg]; exact (below_size (by repeat (first | (with_reducible first | exact HB.out | apply bA_ | apply bB_ | apply bC_) | exact HB.out))) : w.heap.size ≤ gb120)); clear HB; have HB := n0_; have BK120 := n1_; have GW120 := n2_; have GE120 := n3_; clear n0_ n1_ n2_ n3_; clear hb hbox hg) | ((with_reducible refine gate_dst (N := 3) rfl ?_); refine box_event ?hg (N := 3) ?hd (cs := #[.int .i64 a1_0,.int .i64 a1_1]) (t := 53) ?hr ?_; (case hd => rfl); (case hg => rfl); (case hr => first | (go_simp; done) | (go_simp; rfl)); intro gb121 hg w11 hbox hb; have n0_ := aM_ (blk_below (g := gb120) (o := .cells #[.int .i64 a0_0,.int .i64 a0_1] 53 (0,0)) (by (with_reducible repeat (first | refine blk_drewN ?_ _ | refine blk_drew ?_ | refine blk_alloc ?_ _)); exact BK120.out) hb); have n1_ := aM_ (below_step (by repeat (first | (with_reducible first | exact HB.out | apply bA_ | apply bB_ | apply bC_ | refine below_set ?_ GE120.out) | exact HB.out)) hb); have n2_ := aM_ (hbox); have n3_ := aM_ ((by rw [hg]; exact (below_size (by repeat (first | (with_reducible first | exact HB.out | apply bA_ | apply bB_ | apply bC_ | refine below_set ?_ GE120.out) | exact HB.out))) : w.heap.size ≤ gb121)); have n4_ := aM_ ((by rw [hg]; exact (below_size (by repeat (first | (with_reducible first | exact HB.out | apply bA_ | apply bB_ | apply bC_ | refine below_set ?_ GE120.out) | exact HB.out))) : w.heap.size ≤ gb121)); have n5_ := aM_ ((by rw [hg]; exact Nat.ne_of_lt (blk_lt (g := gb120) (o := .cells #[.int .i64 a0_0,.int .i64 a0_1] 53 (0,0)) (by (with_reducible repeat (first | refine blk_drewN ?_ _ | refine blk_drew ?_ | refine blk_alloc ?_ _)); exact BK120.out)) : gb120 ≠ gb121)); have n6_ := aM_ ((by rw [hg]; exact Nat.ne_of_gt (blk_lt (g := gb120) (o := .cells #[.int .i64 a0_0,.int .i64 a0_1] 53 (0,0)) (by (with_reducible repeat (first | refine blk_drewN ?_ _ | refine blk_drew ?_ | refine blk_alloc ?_ _)); exact BK120.out)) : gb121 ≠ gb120)); clear BK120; clear HB; have BK120 := n0_; have HB := n1_; have BK121 := n2_; have GW121 := n3_; have GE121 := n4_; have NB120_121 := n5_; have NB121_120 := n6_; clear n0_ n1_ n2_ n3_ n4_ n5_ n6_; clear hb hbox hg; have hnb12 := NB120_121.out; have hnc12 := NB121_120.out; have hcz13_0 : w11.cell? ⟨gb120,0,none⟩ = some (.int .i64 a0_0) := (blk_cell BK120.out 0).trans rfl; have hcz13_1 : w11.cell? ⟨gb120,1,none⟩ = some (.int .i64 a0_1) := (blk_cell BK120.out 1).trans rfl; have hfz13_0 := blk_frozen BK120.out 0; have hfz13_1 := blk_frozen BK120.out 1; have hcz14_0 : w11.cell? ⟨gb121,0,none⟩ = some (.int .i64 a1_0) := (blk_cell BK121.out 0).trans rfl; have hcz14_1 : w11.cell? ⟨gb121,1,none⟩ = some (.int .i64 a1_1) := (blk_cell BK121.out 1).trans rfl; have hfz14_0 := blk_frozen BK121.out 0; have hfz14_1 := blk_frozen BK121.out 1))
   go_ret
   exact ⟨by first | rfl | (simp [errW_none,errW_some] <;> rfl) | (simp [*,errW_none,errW_some] <;> rfl),by repeat (first | (with_reducible first | exact HB.out | apply bA_ | apply bB_ | apply bC_ | refine below_set ?_ GE120.out | refine below_set ?_ GE121.out) | exact HB.out)⟩
  ·rw [if_neg c9] at H
   have c9b0 : (a0_0 == a1_0) = false := beq_eq_false_iff_ne.mpr c9
   have c9b1 : (a0_0 != a1_0) = true := bne_iff_ne.mpr c9
   obtain rfl := Option.some.inj H
   go_enter Tryd.func74,Tryd.ntmps74
   go_wp2_with (first | ((with_reducible refine gate_dst (N := 2) rfl ?_); refine box_event ?hg (N := 2) ?hd (cs := #[.int .i64 a0_0,.int .i64 a0_1]) (t := 53) ?hr ?_; (case hd => rfl); (case hg => rfl); (case hr => first | (go_simp; done) | (go_simp; rfl)); intro gb120 hg w15 hbox hb; have n0_ := aM_ (below_step (by repeat (first | (with_reducible first | exact HB.out | apply bA_ | apply bB_ | apply bC_) | exact HB.out)) hb); have n1_ := aM_ (hbox); have n2_ := aM_ ((by rw [hg]; exact (below_size (by repeat (first | (with_reducible first | exact HB.out | apply bA_ | apply bB_ | apply bC_) | exact HB.out))) : w.heap.size ≤ gb120)); have n3_ := aM_ ((by rw [hg]; exact (below_size (by repeat (first | (with_reducible first | exact HB.out | apply bA_ | apply bB_ | apply bC_) | exact HB.out))) : w.heap.size ≤ gb120)); clear HB; have HB := n0_; have BK120 := n1_; have GW120 := n2_; have GE120 := n3_; clear n0_ n1_ n2_ n3_; clear hb hbox hg) | ((with_reducible refine gate_dst (N := 3) rfl ?_); refine box_event ?hg (N := 3) ?hd (cs := #[.int .i64 a1_0,.int .i64 a1_1]) (t := 53) ?hr ?_; (case hd => rfl); (case hg => rfl); (case hr => first | (go_simp; done) | (go_simp; rfl)); intro gb121 hg w16 hbox hb; have n0_ := aM_ (blk_below (g := gb120) (o := .cells #[.int .i64 a0_0,.int .i64 a0_1] 53 (0,0)) (by (with_reducible repeat (first | refine blk_drewN ?_ _ | refine blk_drew ?_ | refine blk_alloc ?_ _)); exact BK120.out) hb); have n1_ := aM_ (below_step (by repeat (first | (with_reducible first | exact HB.out | apply bA_ | apply bB_ | apply bC_ | refine below_set ?_ GE120.out) | exact HB.out)) hb); have n2_ := aM_ (hbox); have n3_ := aM_ ((by rw [hg]; exact (below_size (by repeat (first | (with_reducible first | exact HB.out | apply bA_ | apply bB_ | apply bC_ | refine below_set ?_ GE120.out) | exact HB.out))) : w.heap.size ≤ gb121)); have n4_ := aM_ ((by rw [hg]; exact (below_size (by repeat (first | (with_reducible first | exact HB.out | apply bA_ | apply bB_ | apply bC_ | refine below_set ?_ GE120.out) | exact HB.out))) : w.heap.size ≤ gb121)); have n5_ := aM_ ((by rw [hg]; exact Nat.ne_of_lt (blk_lt (g := gb120) (o := .cells #[.int .i64 a0_0,.int .i64 a0_1] 53 (0,0)) (by (with_reducible repeat (first | refine blk_drewN ?_ _ | refine blk_drew ?_ | refine blk_alloc ?_ _)); exact BK120.out)) : gb120 ≠ gb121)); have n6_ := aM_ ((by rw [hg]; exact Nat.ne_of_gt (blk_lt (g := gb120) (o := .cells #[.int .i64 a0_0,.int .i64 a0_1] 53 (0,0)) (by (with_reducible repeat (first | refine blk_drewN ?_ _ | refine blk_drew ?_ | refine blk_alloc ?_ _)); exact BK120.out)) : gb121 ≠ gb120)); clear BK120; clear HB; have BK120 := n0_; have HB := n1_; have BK121 := n2_; have GW121 := n3_; have GE121 := n4_; have NB120_121 := n5_; have NB121_120 := n6_; clear n0_ n1_ n2_ n3_ n4_ n5_ n6_; clear hb hbox hg; have hnb17 := NB120_121.out; have hnc17 := NB121_120.out; have hcz18_0 : w16.cell? ⟨gb120,0,none⟩ = some (.int .i64 a0_0) := (blk_cell BK120.out 0).trans rfl; have hcz18_1 : w16.cell? ⟨gb120,1,none⟩ = some (.int .i64 a0_1) := (blk_cell BK120.out 1).trans rfl; have hfz18_0 := blk_frozen BK120.out 0; have hfz18_1 := blk_frozen BK120.out 1; have hcz19_0 : w16.cell? ⟨gb121,0,none⟩ = some (.int .i64 a1_0) := (blk_cell BK121.out 0).trans rfl; have hcz19_1 : w16.cell? ⟨gb121,1,none⟩ = some (.int .i64 a1_1) := (blk_cell BK121.out 1).trans rfl; have hfz19_0 := blk_frozen BK121.out 0; have hfz19_1 := blk_frozen BK121.out 1))
   go_ret
   exact ⟨by first | rfl | (simp [errW_none,errW_some] <;> rfl) | (simp [*,errW_none,errW_some] <;> rfl),by repeat (first | (with_reducible first | exact HB.out | apply bA_ | apply bB_ | apply bC_ | refine below_set ?_ GE120.out | refine below_set ?_ GE121.out) | exact HB.out)⟩
end Go.Proofs.YtfgbkklhjocmjaaDoor.Xq
