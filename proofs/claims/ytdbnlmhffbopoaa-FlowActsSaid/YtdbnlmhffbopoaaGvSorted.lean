/- The contract of flow.sorted: it returns the pairs in order, each once, in new memory. Condition: at most 4398046511104 pairs. -/
import Derived.Test.YtdbnlmhffbopoaaGvSort
import Derived.Test.YtdbnlmhffbopoaaGvCompact
import Derived.Test.YtdbnlmhffbopoaaXq0
import Derived.Laws.MakeOwn
import Derived.Laws.CopyRow
set_option linter.unusedVariables false
set_option linter.unusedSimpArgs false
namespace Go.Proofs.Ytdbnlmhffbopoaa.Xq
open Go.RowKit Go.Lib Go.Sort Go.Proofs.YtdbnlmhffbopoaaW.PrintWords Go.Proofs.YtdbnlmhffbopoaaW.PrintLast Go.Proofs.Ytdbnlmhffbopoaa.Gv

def toP (x : S44) : Int × Int := (x.f0, x.f1)
def ofP (x : Int × Int) : S44 := ⟨x.1, x.2⟩
/-- the cells of a list of pairs -/
def flP (l : List (Int × Int)) : List Value := l.flatMap encP
theorem flP_len (l : List (Int × Int)) : (flP l).length = l.length * 2 := by
  induction l with
  | nil => rfl
  | cons x r ih => simp only [flP, List.flatMap_cons, List.length_append, encP_len] at ih ⊢; rw [ih]; simp; omega
theorem flP_get : ∀ (l : List (Int × Int)) (j : Nat) (v : Value), (flP l)[j]? = some v → ∃ x, l[j / 2]? = some x ∧ (encP x)[j % 2]? = some v
  | [], j, v, h => by simp [flP] at h
  | x :: r, j, v, h => by
    rcases Nat.lt_or_ge j 2 with hj | hj
    · refine ⟨x, by rw [show j / 2 = 0 by omega]; rfl, ?_⟩
      simp only [flP, List.flatMap_cons] at h
      rw [List.getElem?_append_left (by rw [encP_len]; exact hj)] at h
      rw [show j % 2 = j by omega]; exact h
    · simp only [flP, List.flatMap_cons] at h
      rw [List.getElem?_append_right (by rw [encP_len]; exact hj), encP_len] at h
      obtain ⟨y, h1, h2⟩ := flP_get r (j - 2) v h
      exact ⟨y, by rw [show j / 2 = (j - 2) / 2 + 1 by omega]; exact h1, by rw [show j % 2 = (j - 2) % 2 by omega]; exact h2⟩
theorem flP_flatK (l : List (Int × Int)) : (flP l).toArray = flatK encP 2 l.toArray := by
  refine ext_get! (by simp [flP_len]) fun t ht => ?_
  have ht' : t < l.length * 2 := by simpa [flP_len] using ht
  rw [get_flatK _ _ _ _ (by simpa using ht')]
  have hlt : t < (flP l).length := by rw [flP_len]; exact ht'
  obtain ⟨x, h1, h2⟩ := flP_get l t _ (List.getElem?_eq_getElem hlt)
  have e : (l.toArray)[t / 2]! = x := by
    rw [getElem!_pos _ _ (by simp; omega)]
    simpa using (List.getElem?_eq_some_iff.1 h1).2
  rw [e, getElem!_pos _ _ (by simpa using hlt)]
  obtain ⟨h3, h4⟩ := List.getElem?_eq_some_iff.1 h2
  rw [getElem!_pos (encP x) (t % 2) h3, h4]
  simp
theorem C_cells {A0 : Option Addr} {l : List S44} {w : World} (h : Kd.C k44 w A0 l.length l) (hn : 0 < l.length) : ∃ ad, A0 = some ad ∧ ∀ (j : Nat) (v : Value), (flP (l.map toP))[j]? = some v → w.cell? (ad.add j) = some v := by
  obtain ⟨ad, rfl, hc⟩ := h.2.2 hn
  refine ⟨ad, rfl, fun j v hv => ?_⟩
  obtain ⟨x, h1, h2⟩ := flP_get _ _ _ hv
  rw [List.getElem?_map, Option.map_eq_some_iff] at h1
  obtain ⟨y, hy, rfl⟩ := h1
  obtain ⟨c, hs, hK, hcell⟩ := hc _ y hy
  obtain rfl := k44_open hK
  have := hcell (j % 2) v h2
  rwa [show j / 2 * k44.sz + j % 2 = j from (by show j / 2 * 2 + j % 2 = j; omega)] at this

theorem heap_alloc_at (w : World) (o : Obj) : (w.alloc o).heap[w.heap.size]? = some o := by
  show (w.heap.push o)[w.heap.size]? = _
  simp
theorem alloc_setRow (w : World) (a b : Array Value) (t : TypeId) : (w.alloc (.cells a t)).setRow w.heap.size b = w.alloc (.cells b t) := by
  unfold World.setRow World.alloc
  congr 1
  apply Array.ext
  · simp
  · intro i h1 h2
    simp only [Array.getElem_modify, Array.getElem_push]
    by_cases c : i < w.heap.size
    · simp [c, Nat.ne_of_gt c]
    · have : i = w.heap.size := by simp at h2; omega
      subst this
      simp

theorem run_copy_pairs (P : Program) (w : World) (dT sT ty elem : TypeId) (n sCap : Nat) (A0 : Option Addr) (l : List (Int × Int)) (a : Array Value) (t : TypeId) (hu : P.underlying dT = some (.slice elem)) (hs : (P.info? elem).map (·.size) = some 2) (hn : l.length = n) (ha : a.size = n * 2)
    (hsrc : 0 < n → ∃ ad, A0 = some ad ∧ ∀ (j : Nat) (v : Value), (flP l)[j]? = some v → (w.alloc (.cells a t)).cell? (ad.add j) = some v) :
    (Builtin.copy_ #[dT, sT] ty #[.slice (some ⟨w.heap.size, 0, none⟩) n n, .slice A0 n sCap]).run P (w.alloc (.cells a t)) = .ok (.int .i64 n) (w.alloc (.cells (flP l).toArray t)) := by
  cases hq : P.info? elem with
  | none => simp [hq] at hs
  | some i =>
    have hi : i.size = 2 := by simpa [hq] using hs
    by_cases h0 : n = 0
    · obtain rfl : l = [] := List.eq_nil_of_length_eq_zero (by omega)
      have ea : a = #[] := Array.eq_empty_of_size_eq_zero (by omega)
      subst ea h0
      have hl : ∀ (x : Addr), (loadCells x 0).run P (w.alloc (.cells #[] t)) = .ok #[] (w.alloc (.cells #[] t)) := fun x => by simpa using run_loadCells_list (P := P) (w.alloc (.cells #[] t)) x [] (by simp)
      cases A0 <;> simp [Builtin.copy_, run_underlying hu, Builtin.lenOf, Builtin.firstCells, sizeOf, typeInfo, hq, storeCells, hl, goInt, flP]
    · obtain ⟨ad, rfl, hc⟩ := hsrc (by omega)
      have hl := run_loadCells_list (P := P) (w.alloc (.cells a t)) ad (flP l) hc
      have hst := run_storeCells_at P w.heap.size 0 t (flP l) 0 a (w.alloc (.cells a t)) (heap_alloc_at w _) (by rw [flP_len, hn]; omega) (by
        intro v hv
        obtain ⟨x, _, hx⟩ := List.mem_flatMap.1 hv
        exact encP_one x v hx)
      have e : (a.toList.take (0 + 0) ++ flP l ++ a.toList.drop (0 + 0 + (flP l).length)).toArray = (flP l).toArray := by
        rw [flP_len, hn, ← ha]; simp
      rw [e, alloc_setRow] at hst
      rw [flP_len, hn] at hl
      simp [Builtin.copy_, run_underlying hu, Builtin.lenOf, Builtin.firstCells, sizeOf, typeInfo, hq, hi, hl, hst, goInt]

/-- sorted, each once -/
def sortDedup (l : List (Int × Int)) : List (Int × Int) := compactUpTo (srtP l.toArray) (srtP l.toArray).size
def flow_sorted.f (l : List S44) : Option (List S44) := if l.length ≤ 4398046511104 then some ((sortDedup (l.map toP)).map ofP) else none

theorem srtP_size (d : Array (Int × Int)) : (srtP d).size = d.size := (pdq_sorts (ltOf cmpP) swoP d 0 d.size (Lib.bitLen d.size) true true (Nat.zero_le _) (Nat.le_refl _) (Or.inl rfl)).1.1

theorem zero44 : (Try.prog.info? 44).map (fun i => (i.zero, i.size, i.bytes)) = some (some (.agg #[(.int .i64 0), (.int .i64 0)]), 2, 16) := by kernel_rfl

/-- a row of pairs that is the block's head, as an own row -/
theorem own_of_block {w' : World} {base g cap : Nat} {D : List (Int × Int)} {Z : List (Int × Int)} (hg : w'.heap[g]? = some (.cells (flatK encP 2 (D ++ Z).toArray) 44 (0, 0))) (hb : base ≤ g) (hc : (D ++ Z).length = cap) (hm : cap ≤ maxLen) :
    Kd.R k44 44 w' base (fun _ => True) (.slice (some ⟨g, 0, none⟩) D.length cap) (D.map ofP) := by
  refine ⟨fun _ _ => trivial, flP D, ⟨by rw [flP_len]; simp; rfl, .inr ⟨g, cap, flatK encP 2 (D ++ Z).toArray, by simp, hb, hg, by simp at hc ⊢; omega, hm, by rw [size_flatK]; simp at hc ⊢; rw [hc]; rfl, ?_⟩⟩, ?_⟩
  · rw [← flP_flatK]
    show List.take ((D.map ofP).length * 2) (flP (D ++ Z)) = flP D
    rw [List.length_map, flP, List.flatMap_append, show D.flatMap encP = flP D from rfl, ← flP_len D, List.take_left]
  · refine ⟨by rw [flP_len]; simp; rfl, fun j p hp => ?_⟩
    rw [List.getElem?_map, Option.map_eq_some_iff] at hp
    obtain ⟨x, hx, rfl⟩ := hp
    have : ((flP D).drop (j * 2)).take 2 = encP x := by
      clear hg hc
      induction D generalizing j with
      | nil => simp at hx
      | cons y r ih =>
        cases j with
        | zero => simp at hx; subst hx; rfl
        | succ j =>
          rw [show (j + 1) * 2 = 2 + j * 2 by omega, ← List.drop_drop]
          exact ih j (by simpa using hx)
    show k44.M _ _ _ _ (((flP D).drop (j * 2)).take 2)
    rw [this]
    exact k44_mkM _ _ _ (ofP x)

set_option maxHeartbeats 1000000 in
theorem flow_sorted.calls (A0 : Option Addr) (c0 : Nat) (l0 : List S44) (r : List S44) (w : World) (hr0 : Kd.C k44 w A0 l0.length l0) (hc0 : l0.length ≤ c0) (h : flow_sorted.f l0 = some r) :
    Calls Try.prog 27 #[.slice A0 l0.length c0] w fun e w' => ∃ v0_ : Value, e = .returned v0_ ∧ Kd.R k44 44 w' w.heap.size (fun _ => True) v0_ r ∧ RowKit.Below w.heap.size w w' := by
  unfold flow_sorted.f at h
  by_cases hlen : l0.length ≤ 4398046511104
  case neg => rw [if_neg hlen] at h; cases h
  rw [if_pos hlen] at h
  obtain ⟨d, hd⟩ : ∃ d, (l0.map toP).toArray = d := ⟨_, rfl⟩
  have hds : d.size = l0.length := by rw [← hd]; simp
  obtain ⟨i0, hi, hz⟩ := Option.map_eq_some_iff.1 zero44
  simp only [Prod.mk.injEq] at hz
  obtain ⟨hz0, hz1, hz2⟩ := hz
  have hmk : ∀ W : World, (Instr.makeSlice 24 (.int .i64 (l0.length : Int)) (.int .i64 (l0.length : Int))).run Try.prog W = .ok (.slice (some ⟨W.heap.size, 0, none⟩) l0.length l0.length) (W.alloc (.cells (madeCells #[.int .i64 0, .int .i64 0] (l0.length * 2)) 44)) := by
    intro W
    have z := run_make (P := Try.prog) W 24 44 i0 _ Try.underlying24 hi hz0 .i64 .i64 (l0.length : Int) (l0.length : Int) (by omega) (by omega) (by rw [hz2]; omega) (by omega)
    rw [hz1, Int.toNat_natCast] at z
    exact z
  have hcp : ∀ ty, (Builtin.copy_ #[24, 23] ty #[.slice (some ⟨w.heap.size, 0, none⟩) l0.length l0.length, .slice A0 l0.length c0]).run Try.prog (w.alloc (.cells (madeCells #[.int .i64 0, .int .i64 0] (l0.length * 2)) 44)) = .ok (.int .i64 (l0.length : Int)) (w.alloc (.cells (flatK encP 2 d) 44)) := by
    intro ty
    rw [← hd, ← flP_flatK]
    refine run_copy_pairs Try.prog w 24 23 ty 44 l0.length c0 A0 (l0.map toP) _ 44 Try.underlying24 (by rw [hi]; simp [hz1]) (by simp) (size_madeCells _ _) (fun hn => ?_)
    obtain ⟨ad, e, hc⟩ := C_cells hr0 hn
    refine ⟨ad, e, fun j v hv => ?_⟩
    have z := hc j v hv
    rw [← z]
    exact World.cell?_of_block (by rw [← Below.heap_alloc w _ _ (World.block_lt_of_cell? w _ z)])
  have hb0 : (w.alloc (.cells (flatK encP 2 d) 44)).heap[w.heap.size]? = some (.cells (flatK encP 2 d) 44 (0, 0)) := heap_alloc_at w _
  have hH : HoldsK encP 2 (w.alloc (.cells (flatK encP 2 d) 44)) w.heap.size 0 d := by
    intro j hj
    have : j < (flatK encP 2 d).size := hj
    rw [Nat.zero_add]
    constructor
    · simp only [World.cell?, hb0]
      simp only [this, Array.getElem?_eq_getElem, getElem!_pos]
      rfl
    · simp only [World.frozen?, hb0]
      simp
  have hs := sortFunc_calls w.heap.size 0 l0.length d _ hH (by simp) (by rw [hds]; omega)
  rw [hds] at hs
  have HC : As2 (∀ n os, Calls Try.prog 44 #[.slice (some ⟨w.heap.size, 0, none⟩) l0.length l0.length] (sortWorldK encP 2 (w.alloc (.cells (flatK encP 2 d) 44)) w.heap.size 0 n (srtP d) os) fun e w' => ∃ v0_ : Value, e = .returned v0_ ∧ Kd.R k44 44 w' w.heap.size (fun _ => True) v0_ r ∧ RowKit.Below w.heap.size w w') := by
    refine ⟨fun n os => ?_⟩
    have hH2 := holdsK_sortWorldK encP 2 (w.alloc (.cells (flatK encP 2 d) 44)) w.heap.size 0 n d (srtP d) os (by simp) hH (srtP_size d)
    have hc := compact_calls w.heap.size 0 l0.length (srtP d) _ hH2 (by rw [srtP_size, hds]; omega) (by rw [srtP_size, hds]; omega)
    rw [srtP_size, hds] at hc
    have hr : (compactUpTo (srtP d) l0.length).map ofP = r := by
      have z := Option.some.inj h
      unfold sortDedup at z
      rw [hd, srtP_size, hds] at z
      exact z
    have hle : (compactUpTo (srtP d) l0.length).length ≤ l0.length := by
      unfold compactUpTo
      rw [List.length_map]
      exact Nat.le_trans (List.length_filter_le _ _) (by simp)
    generalize compactUpTo (srtP d) l0.length = D at hc hr hle
    subst hr
    refine hc.mono ?_
    rintro e w' ⟨rfl, q, rfl⟩
    have hb1 := sortWorld_block hb0 n (srtP d) os (by rw [size_flatK, srtP_size])
    have hb2 := sortWorld_block hb1 q (D ++ List.replicate (l0.length - D.length) (0, 0)).toArray #[] (by rw [size_flatK, srtP_size, hds]; simp; omega)
    have hw2 := sortWorld_below (B := w.heap.size) (Nat.le_refl _) (show w.heap.size < (sortWorldK encP 2 (w.alloc (.cells (flatK encP 2 d) 44)) w.heap.size 0 n (srtP d) os).heap.size from (Array.getElem?_eq_some_iff.1 hb1).1) q (D ++ List.replicate (l0.length - D.length) (0, 0)).toArray #[]
    have hw1 := sortWorld_below (B := w.heap.size) (Nat.le_refl _) (show w.heap.size < (w.alloc (.cells (flatK encP 2 d) 44)).heap.size by simp) n (srtP d) os
    unfold sortWorldK at hb2 hw2
    rw [grow_empty] at hb2 hw2
    exact ⟨_, rfl, own_of_block hb2 (Nat.le_refl _) (by simp; omega) (by unfold maxLen; omega), (((RowKit.Below.refl _ _).alloc (Nat.le_refl _) _).trans hw1).trans hw2⟩
  clear hr0 hH h hd
  have HK := As2.mk hi
  have HZ := As2.mk (And.intro hz0 (And.intro hz1 hz2))
  clear hi hz0 hz1 hz2 hds hb0
  generalize srtP d = sd at hs HC
  go_enter Try.func27, Try.ntmps27
  go_wp2_with (first | (go_at_call 43; refine hs.mono ?_; rintro e w' ⟨rfl, n, os, rfl⟩) | (go_at_call 44; refine (HC.out _ _).mono ?_; rintro e w' ⟨v0, rfl, hv, hb⟩))
  go_ret
  exact ⟨_, rfl, hv, hb⟩
end Go.Proofs.Ytdbnlmhffbopoaa.Xq
