/- The contracts of slices.Clone, Sort, Compact and BinarySearch at whole numbers, over rows of the call's own. Condition: the sizes of the shelf's contracts. -/
import Derived.Test.YtdbnlmhffbopoaaGvRow
import Derived.Test.YtdbnlmhffbopoaaGvLayI
import Derived.Test.YtdbnlmhffbopoaaXq0
import Derived.OpenShut
set_option linter.unusedVariables false
set_option linter.unusedSimpArgs false
namespace Go.Proofs.Ytdbnlmhffbopoaa.Xq
open Go.ChangeShapes Go.RowKit Go.Lib Go.Sort Go.Proofs.YtdbnlmhffbopoaaW.PrintWords Go.Proofs.Ytdbnlmhffbopoaa.Gv

abbrev kI : Kd Int := Kd.int .i64
abbrev encI64 (x : Int) : Value := .int .i64 x
theorem heap_putRow_pre {α : Type} [Inhabited α] (enc : α → Value) {w : World} {g t : Nat} {c : Array Value} {fr : Nat × Nat} (hg : w.heap[g]? = some (.cells c t fr)) (d : Array α) : (putRow enc w g 0 d).heap[g]? = some (.cells (putCells enc 0 d c) t fr) := by
  unfold putRow mapBlock
  simp only [Array.getElem?_modify, if_true, hg, Option.map_some, onCells]
theorem putCells_size {α : Type} [Inhabited α] (enc : α → Value) (d : Array α) (c : Array Value) : (putCells enc 0 d c).size = c.size := by simp [putCells]
theorem putCells_take {α : Type} [Inhabited α] (enc : α → Value) (d : List α) (c : Array Value) (h : d.length ≤ c.size) : (putCells enc 0 d.toArray c).toList.take d.length = d.map enc := by
  apply List.ext_getElem
  · simp [putCells]; omega
  · intro i h1 h2
    have hi : i < d.length := by simpa using h2
    simp [putCells, hi]
theorem heap_putRow_o {α : Type} [Inhabited α] (enc : α → Value) {w : World} {g k : Nat} (h : k ≠ g) (d : Array α) : (putRow enc w g 0 d).heap[k]? = w.heap[k]? := by
  unfold putRow mapBlock
  simp [Array.getElem?_modify, Ne.symm h]
theorem size_putRow_o {α : Type} [Inhabited α] (enc : α → Value) (w : World) (g : Nat) (d : Array α) : (putRow enc w g 0 d).heap.size = w.heap.size := by
  unfold putRow mapBlock
  simp
theorem grownBy_putRow {α : Type} [Inhabited α] (enc : α → Value) {w : World} {g : Nat} (hg : g < w.heap.size) (n : Nat) (d : Array α) (os : Array Obj) : w.grownBy (grow (putRow enc (Sort.ahead w n) g 0 d) os) (some g) := by
  refine ⟨rfl, rfl, rfl, ?_, fun k hk hne => ?_⟩
  · show _ ≤ ((putRow enc (Sort.ahead w n) g 0 d).heap ++ os).size
    rw [Array.size_append, size_putRow_o]
    exact Nat.le_add_right _ _
  · rw [heap_grow (by rw [size_putRow_o]; exact hk), heap_putRow_o enc (fun e => hne (by rw [e])) d]
    rfl

/-- what a row of numbers of the call's own is -/
theorem R_int_iff {w : World} {base : Nat} {v : Value} {l : List Int} : Kd.R kI 3 w base (fun _ => True) v l ↔ w.ownsRow base 3 1 v l.length (l.map encI64) := by
  constructor
  · rintro ⟨_, inner, ho, h1, h2⟩
    have : inner = l.map encI64 := by
      apply List.ext_getElem?
      intro j
      rcases Nat.lt_or_ge j l.length with hj | hj
      · have := h2 j l[j] (List.getElem?_eq_getElem hj)
        have e : (inner.drop (j * 1)).take 1 = [.int .i64 l[j]] := this
        rw [List.getElem?_map, List.getElem?_eq_getElem hj]
        have := congrArg (fun t : List Value => t[0]?) e
        simpa [List.getElem?_take, List.getElem?_drop] using this
      · rw [List.getElem?_eq_none (by rw [h1]; simp [Kd.int, Kd.scalar]; omega), List.getElem?_eq_none (by simpa using hj)]
    rw [← this]
    exact ho
  · intro ho
    refine ⟨fun _ _ => trivial, _, ho, ⟨by simp [Kd.int, Kd.scalar], fun j p hp => ?_⟩⟩
    obtain ⟨hj, rfl⟩ := List.getElem?_eq_some_iff.1 hp
    show _ = [Value.int .i64 l[j]]
    have hsz : kI.sz = 1 := rfl
    rw [hsz, Nat.mul_one, List.drop_eq_getElem_cons (by simpa using hj)]
    simp

theorem C_int {w : World} {A : Option Addr} {l : List Int} (h : Kd.C kI w A l.length l) (hn : 0 < l.length) : ∃ b off, A = some ⟨b, off, none⟩ ∧ ∀ j, j < l.length → w.cell? ⟨b, off + j, none⟩ = some (.int .i64 (l.getD j 0)) := by
  obtain ⟨ad, rfl, hc⟩ := (Kd.reads_of_C (enc := Value.int .i64) (d := (0 : Int)) (h1 := fun _ => rfl) h).2.2 hn
  obtain ⟨b, off, rfl, hz⟩ := ints_at (w := w) (k := .i64) (zs := l) (fun i hi => hc i hi) hn
  exact ⟨b, off, rfl, hz⟩

theorem cloneI_calls (A : Option Addr) (c : Nat) (l : List Int) (w : World) (hC : Kd.C kI w A l.length l) (hl : l.length * 8 ≤ 140737488355328) :
    Calls Try.prog 35 #[.slice A l.length c] w fun e w' => ∃ v, e = .returned v ∧ Kd.R kI 3 w' w.heap.size (fun _ => True) v l ∧ RowKit.Below w.heap.size w w' := by
  cases l with
  | nil =>
    cases A with
    | none => exact (Try.slices_Clone_int_nil 0 c w).mono fun e w' ⟨he, hw⟩ => ⟨_, he, Kd.R_nil _ _ _ _ _, by rw [hw]; exact RowKit.Below.refl _ _⟩
    | some ad => exact (Try.slices_Clone_int_zero ad c w).mono fun e w' ⟨v, he, ho, _, hb⟩ => ⟨_, he, R_int_iff.2 ho, hb⟩
  | cons x r =>
    obtain ⟨b, off, rfl, hc⟩ := C_int hC (by simp)
    refine (Try.slices_Clone_int b off _ c (x :: r) w (Nat.le_refl _) hl hc).mono fun e w' ⟨v, he, ho, _, hb⟩ => ⟨_, he, R_int_iff.2 ?_, hb⟩
    rwa [List.take_length] at ho

def sortI (l : List Int) : List Int := l.mergeSort fun x y => decide (x ≤ y)
theorem sortI_len (l : List Int) : (sortI l).length = l.length := List.length_mergeSort l

/-- a row of numbers of the call's own, in memory -/
theorem R_int_open {w : World} {base : Nat} {v : Value} {l : List Int} (h : Kd.R kI 3 w base (fun _ => True) v l) : (v = .slice none 0 0 ∧ l = []) ∨ ∃ g cap cur, v = .slice (some ⟨g, 0, none⟩) l.length cap ∧ base ≤ g ∧ w.heap[g]? = some (.cells cur 3 (0, 0)) ∧ l.length ≤ cap ∧ cap ≤ maxLen ∧ cur.size = cap ∧ cur.toList.take l.length = l.map encI64 := by
  obtain ⟨h1, h2 | ⟨g, cap, cur, hv, hb, hg, hl, hm, hs, ht⟩⟩ := R_int_iff.1 h
  · exact .inl ⟨h2.1, List.eq_nil_of_length_eq_zero h2.2⟩
  · exact .inr ⟨g, cap, cur, hv, hb, hg, hl, hm, by rw [hs, Nat.mul_one], by rwa [Nat.mul_one] at ht⟩
theorem R_int_holds {w : World} {g cap : Nat} {cur : Array Value} {l : List Int} (hg : w.heap[g]? = some (.cells cur 3 (0, 0))) (hl : l.length ≤ cap) (hs : cur.size = cap) (ht : cur.toList.take l.length = l.map encI64) : Holds (Value.int .i64) w g 0 l.toArray := by
  intro j hj
  have hj' : j < l.length := by simpa using hj
  rw [Nat.zero_add]
  refine ⟨?_, blk_frozen hg j⟩
  rw [blk_cell hg j]
  have : (cur.toList.take l.length)[j]? = some (.int .i64 l[j]) := by rw [ht]; simp [hj']
  rw [List.getElem?_take, if_pos hj'] at this
  rw [← Array.getElem?_toList, this]
  simp [hj']
theorem R_int_put {w : World} {base g cap : Nat} {cur : Array Value} (hb : base ≤ g) (hg : w.heap[g]? = some (.cells cur 3 (0, 0))) (hm : cap ≤ maxLen) (hs : cur.size = cap) (l z : List Int) (hl : (l ++ z).length ≤ cap) (n : Nat) (os : Array Obj) :
    Kd.R kI 3 (grow (putRow (Value.int .i64) (Sort.ahead w n) g 0 (l ++ z).toArray) os) base (fun _ => True) (.slice (some ⟨g, 0, none⟩) l.length cap) l := by
  have hlt : g < w.heap.size := (Array.getElem?_eq_some_iff.1 hg).1
  have hg2 : (grow (putRow (Value.int .i64) (Sort.ahead w n) g 0 (l ++ z).toArray) os).heap[g]? = some (.cells (putCells (Value.int .i64) 0 (l ++ z).toArray cur) 3 (0, 0)) := by
    rw [heap_grow (by rw [size_putRow_o]; exact hlt)]
    exact heap_putRow_pre _ (w := Sort.ahead w n) hg _
  refine R_int_iff.2 ⟨by simp, .inr ⟨g, cap, _, rfl, hb, hg2, by simp at hl; omega, hm, by rw [putCells_size, hs, Nat.mul_one], ?_⟩⟩
  have z1 := putCells_take (Value.int .i64) (l ++ z) cur (by rw [hs]; exact hl)
  rw [Nat.mul_one]
  have : List.take l.length (List.take (l ++ z).length (putCells (Value.int .i64) 0 (l ++ z).toArray cur).toList) = l.map encI64 := by
    rw [z1, List.map_append, List.take_left' (by simp)]
  rwa [List.take_take, Nat.min_eq_left (by simp)] at this

theorem sortI_calls (v : Value) (l : List Int) (base : Nat) (w : World) (h : Kd.R kI 3 w base (fun _ => True) v l) (hl : l.length < 4611686018427387904) :
    Calls Try.prog 36 #[v] w fun e w' => e = .returned (.tuple #[]) ∧ Kd.R kI 3 w' base (fun _ => True) v (sortI l) ∧ w.grownBy w' v.ownBlock := by
  rcases R_int_open h with ⟨rfl, rfl⟩ | ⟨g, cap, cur, rfl, hb, hg, hc, hm, hs, ht⟩
  · refine (Try.slices_Sort_int_none none 0 w).mono fun e w' ⟨he, hw⟩ => ⟨he, ?_, ?_⟩
    · show Kd.R kI 3 w' base _ _ (sortI []); rw [show sortI [] = [] by simp [sortI]]; exact Kd.R_nil _ _ _ _ _
    · rw [hw]; exact grown_of_below (RowKit.Below.refl _ _) _
  · refine (Try.slices_Sort_int g 0 cap l w (R_int_holds hg hc hs ht) (Array.getElem?_eq_some_iff.1 hg).1 hl).mono fun e w' ⟨he, n, os, hw⟩ => ⟨he, ?_, ?_⟩
    · have z := R_int_put hb hg hm hs (sortI l) [] (by simpa [sortI_len] using hc) n os
      rw [List.append_nil, sortI_len] at z
      rw [hw]; exact z
    · rw [hw]; exact grownBy_putRow _ (Array.getElem?_eq_some_iff.1 hg).1 n _ os

theorem compactI_calls (v : Value) (l : List Int) (base : Nat) (w : World) (h : Kd.R kI 3 w base (fun _ => True) v l) (hl : l.length ≤ 9223372036854775807) :
    Calls Try.prog 38 #[v] w fun e w' => ∃ v', e = .returned v' ∧ Kd.R kI 3 w' base (fun _ => True) v' (Lib.compact l) ∧ w.grownBy w' v.ownBlock ∧ v'.ownBlock = v.ownBlock := by
  rcases R_int_open h with ⟨rfl, rfl⟩ | ⟨g, cap, cur, rfl, hb, hg, hc, hm, hs, ht⟩
  · refine (Try.slices_Compact_int_empty none 0 w).mono fun e w' ⟨he, hw⟩ => ⟨_, he, ?_, ?_, rfl⟩
    · exact Kd.R_nil _ _ _ _ _
    · rw [hw]; exact grown_of_below (RowKit.Below.refl _ _) _
  · have hle : (Lib.compact l).length ≤ l.length := by
      unfold Lib.compact compactUpTo
      rw [List.length_map]
      exact Nat.le_trans (List.length_filter_le _ _) (by simp)
    refine (Try.slices_Compact_int g 0 cap l w (R_int_holds hg hc hs ht) hl hc).mono fun e w' ⟨he, q, hw⟩ => ⟨_, he, ?_, ?_, rfl⟩
    · have z := R_int_put hb hg hm hs (Lib.compact l) (List.replicate (l.length - (Lib.compact l).length) 0) (by simp; omega) q #[]
      rw [grow_empty] at z
      rw [hw]; exact z
    · have z := grownBy_putRow (Value.int .i64) (Array.getElem?_eq_some_iff.1 hg).1 q (Lib.compact l ++ List.replicate (l.length - (Lib.compact l).length) 0).toArray #[]
      rw [grow_empty] at z
      rw [hw]; exact z

theorem bsI_calls (A : Option Addr) (c : Nat) (l : List Int) (x : Int) (w : World) (hC : Kd.C kI w A l.length l) (hl : l.length < 4611686018427387904) (hs : l.Pairwise (· ≤ ·)) :
    Calls Try.prog 37 #[.slice A l.length c, .int .i64 x] w fun e w' => ∃ i : Int, e = .returned (.tuple #[.int .i64 i, .bool (decide (x ∈ l))]) ∧ ∃ q, w' = w.drewN q := by
  cases l with
  | nil => exact (Try.slices_BinarySearch_int_empty A c x w).mono fun e w' ⟨he, hw⟩ => ⟨0, by rw [he]; simp, 0, hw⟩
  | cons y r =>
    obtain ⟨b, off, rfl, hc⟩ := C_int hC (by simp)
    refine (Try.slices_BinarySearch_int b off _ c (y :: r) x w (Nat.le_refl _) hl hc (by rwa [List.take_length])).mono fun e w' ⟨he, hq⟩ => ⟨((List.countP (fun t => decide (t < x)) ((y :: r).take (y :: r).length) : Nat) : Int), ?_, hq⟩
    rw [he, List.take_length, show (y :: r).contains x = decide (x ∈ y :: r) by rw [Bool.eq_iff_iff]; simp]
end Go.Proofs.Ytdbnlmhffbopoaa.Xq
