/- Small laws of a row of pairs in one block: what the sort's words say of its cells. No program. -/
import Derived.WalkKit
import Derived.KernelRfl
import Derived.Deep.Draws
import Derived.Below
import Derived.Lib.Walk
import Derived.Lib.SliceRun
import Derived.Lib.SlicesCompact
import Derived.Shelf.GgSortFunc.RowK
import Derived.Shelf.SlSortFuncK.ComposeK
set_option linter.unusedVariables false
set_option linter.unusedSimpArgs false
namespace Go.Proofs.Ytdbnlmhffbopoaa.Gv
open Go.RowKit Go.Lib Go.Sort

structure As2 (p : Prop) : Prop where mk :: (out : p)
/-- a pair's two cells -/
def encP (x : Int × Int) : List Value := [.int .i64 x.1, .int .i64 x.2]
theorem encP_len (x : Int × Int) : (encP x).length = 2 := rfl
theorem encP_one (x : Int × Int) : ∀ v ∈ encP x, v.oneCell' = true := by
  intro v hv
  simp [encP] at hv
  rcases hv with rfl | rfl <;> rfl
theorem eqP (x y : Int × Int) : (x.1 == y.1 && x.2 == y.2) = decide (x = y) := by
  rw [Bool.eq_iff_iff]; simp [Prod.ext_iff]

/-- one element's cells laid: the flat row of the new list -/
theorem setMany_one (dk : Array (Int × Int)) (i : Nat) (x : Int × Int) (hi : i < dk.size) : setMany (flatK encP 2 dk) (i * 2) (encP x) = flatK encP 2 (dk.setIfInBounds i x) := by
  refine ext_get! (by simp) fun t ht => ?_
  have ht' : t < dk.size * 2 := by simpa using ht
  rw [get_setMany _ _ _ t (by simpa using ht'), get_flatK _ _ _ t ht', get_flatK _ _ _ t (by simpa using ht')]
  have L := encP_len x
  by_cases c : i * 2 ≤ t ∧ t < i * 2 + 2
  · rw [if_pos (by rw [L]; exact c)]
    have e : t / 2 = i := by omega
    rw [e, getElem!_set_same dk i x hi, show t % 2 = t - i * 2 by omega]
  · rw [if_neg (by rw [L]; exact c), getElem!_set_other dk i _ x (by omega)]

theorem setMany_lay : ∀ (xs : List (Int × Int)) (dk : Array (Int × Int)) (k : Nat), k + xs.length ≤ dk.size → setMany (flatK encP 2 dk) (k * 2) (xs.flatMap encP) = flatK encP 2 (lay dk k xs)
  | [], _, _, _ => rfl
  | x :: r, dk, k, h => by
    have h' : k + (r.length + 1) ≤ dk.size := by simpa using h
    have := setMany_lay r (dk.setIfInBounds k x) (k + 1) (by simp; omega)
    rw [lay, ← this, ← setMany_one dk k x (by omega), show (k + 1) * 2 = k * 2 + 1 + 1 by omega]
    rfl

theorem store_worldP {w wr : World} {n blk off : Nat} {dk : Array (Int × Int)} {i : Nat} (hi : i < dk.size) (hwr : wr = putRowK encP 2 (Sort.ahead w n) blk off dk) (x : Int × Int) :
    (wr.setCell ⟨blk, off + i * 2, none⟩ (.int .i64 x.1)).setCell ⟨blk, off + i * 2 + 1, none⟩ (.int .i64 x.2) = putRowK encP 2 (Sort.ahead w n) blk off (dk.setIfInBounds i x) := by
  subst hwr
  unfold putRowK
  rw [← setMany_one dk i x hi, ← setCells_putRow _ _ _ _ _ _ (by simp [encP_len]; omega)]
  rfl

theorem drew_worldP {w wr : World} {n blk off : Nat} {dk : Array (Int × Int)} (hwr : wr = putRowK encP 2 (Sort.ahead w n) blk off dk) (q : Nat) : wr.drewN q = putRowK encP 2 (Sort.ahead w (n + q)) blk off dk := by
  rw [hwr, putRowK_drewN]

theorem clear_worldP {w wr : World} {n blk off : Nat} {dk : Array (Int × Int)} {k m : Nat} (hm : k + m ≤ dk.size) (hwr : wr = putRowK encP 2 (Sort.ahead w n) blk off dk) :
    wr.setCells blk (off + k * 2) (List.replicate (m * 2) (.int .i64 0)) = putRowK encP 2 (Sort.ahead w n) blk off (lay dk k (List.replicate m (0, 0))) := by
  subst hwr
  unfold putRowK
  have e : List.replicate (m * 2) (Value.int .i64 0) = (List.replicate m ((0, 0) : Int × Int)).flatMap encP := by
    clear hm
    induction m with
    | zero => rfl
    | succ m ih => rw [List.replicate_succ, List.flatMap_cons, ← ih, show (m + 1) * 2 = m * 2 + 1 + 1 by omega, List.replicate_succ, List.replicate_succ]; rfl
  rw [← setMany_lay _ dk k (by simpa using hm), e, setCells_putRow _ _ _ _ _ _ (by rw [← e]; simp; omega)]

theorem run_clear_pairs {P : Program} (w : World) (t e ty : TypeId) (ht : P.underlying t = some (.slice e)) (hv : ∀ w, (zeroValue e).run P w = .ok (.agg #[.int .i64 0, .int .i64 0]) w) (b o n c : Nat) (hn : 0 < n)
    (hc : ∀ j, j < n * 2 → (w.cell? ⟨b, o + j, none⟩).isSome = true) (hf : ∀ j, j < n * 2 → w.frozen? ⟨b, o + j, none⟩ = false) :
    (Builtin.clear_ #[t] ty #[.slice (some ⟨b, o, none⟩) n c]).run P w = .ok (.tuple #[]) (w.setCells b o (List.replicate (n * 2) (.int .i64 0))) := by
  have hzc : (Builtin.zeroCells (Value.agg #[.int .i64 0, .int .i64 0]).cells n).toList = List.replicate (n * 2) (.int .i64 0) := by
    simp [Builtin.zeroCells, Value.cells]
    apply List.ext_getElem
    · simp
    · intro i h1 h2
      simp
      have : i % 2 = 0 ∨ i % 2 = 1 := by omega
      rcases this with h | h <;> simp [h]
  have hst := run_storeCells_cells (P := P) b o (List.replicate (n * 2) (.int .i64 0)) 0 w (by simpa using hc) (by simpa using hf) (by intro v hv'; rw [List.eq_of_mem_replicate hv']; rfl)
  simp only [Nat.add_zero] at hst
  obtain ⟨m, rfl⟩ : ∃ m, n = m + 1 := ⟨n - 1, by omega⟩
  simp [Builtin.clear_, run_underlying ht, hv, hzc, hst]

/-- a block that is just the row holds the row's cells -/
theorem heap_putRow_whole {w : World} {g t : Nat} {c : Array Value} {fr : Nat × Nat} (hg : w.heap[g]? = some (.cells c t fr)) (F : Array Value) (hs : c.size = F.size) : (putRow id w g 0 F).heap[g]? = some (.cells F t fr) := by
  unfold putRow mapBlock
  simp only [Array.getElem?_modify, if_true, hg, Option.map_some, onCells]
  congr 2
  refine ext_get! (by simp [putCells, hs]) fun k hk => ?_
  have hk' : k < c.size := by simpa [putCells] using hk
  rw [getElem!_pos _ k (by simpa [putCells] using hk')]
  simp [putCells, hs ▸ hk']
theorem heap_putRow_other {w : World} {g k : Nat} (h : k ≠ g) (F : Array Value) : (putRow id w g 0 F).heap[k]? = w.heap[k]? := by
  unfold putRow mapBlock
  simp [Array.getElem?_modify, Ne.symm h]
theorem size_putRow (w : World) (g : Nat) (F : Array Value) : (putRow id w g 0 F).heap.size = w.heap.size := by
  unfold putRow mapBlock
  simp
theorem heap_grow {w : World} {k : Nat} (h : k < w.heap.size) (os : Array Obj) : (grow w os).heap[k]? = w.heap[k]? := by
  show (w.heap ++ os)[k]? = _
  rw [Array.getElem?_append_left h]

/-- behind the sort (and what stores into the row) the block holds the row, nothing else that was there has turned -/
theorem sortWorld_block {w : World} {g t : Nat} {c : Array Value} {fr : Nat × Nat} (hg : w.heap[g]? = some (.cells c t fr)) (n : Nat) (D : Array (Int × Int)) (os : Array Obj) (hs : c.size = D.size * 2) :
    (sortWorldK encP 2 w g 0 n D os).heap[g]? = some (.cells (flatK encP 2 D) t fr) := by
  have hlt : g < w.heap.size := (Array.getElem?_eq_some_iff.1 hg).1
  unfold sortWorldK putRowK
  rw [heap_grow (by rw [size_putRow]; exact hlt)]
  exact heap_putRow_whole (w := Sort.ahead w n) hg _ (by rw [size_flatK]; exact hs)
theorem sortWorld_below {w : World} {g B : Nat} (hB : B ≤ g) (hg : g < w.heap.size) (n : Nat) (D : Array (Int × Int)) (os : Array Obj) : RowKit.Below B w (sortWorldK encP 2 w g 0 n D os) := by
  unfold sortWorldK putRowK
  refine ⟨rfl, rfl, rfl, ?_, fun k hk => ?_⟩
  · show _ ≤ ((putRow id (Sort.ahead w n) g 0 (flatK encP 2 D)).heap ++ os).size
    rw [Array.size_append, size_putRow]
    exact Nat.le_add_right _ _
  · rw [heap_grow (by rw [size_putRow]; show k < w.heap.size; omega), heap_putRow_other (by omega)]
    rfl
end Go.Proofs.Ytdbnlmhffbopoaa.Gv
