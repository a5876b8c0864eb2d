/- What sorting and compacting makes of numbers: ascending, each once, the same members. No condition. -/
import Derived.Test.YtdbnlmhffbopoaaGvSpec
import Derived.Test.YtdbnlmhffbopoaaGvInts
set_option linter.unusedVariables false
set_option linter.unusedSimpArgs false
namespace Go.Proofs.Ytdbnlmhffbopoaa.Xq
open Go.RowKit Go.Lib

theorem mem_compact (l : List Int) (x : Int) : x ∈ Lib.compact l ↔ x ∈ l := by
  unfold Lib.compact compactUpTo
  constructor
  · intro h
    obtain ⟨i, hi, rfl⟩ := List.mem_map.1 h
    have hi' : i < l.toArray.size := by simpa using List.mem_range.1 (List.mem_filter.1 hi).1
    rw [getElem!_pos l.toArray i hi']
    simp
  · intro h
    obtain ⟨i, hi, rfl⟩ := List.mem_iff_getElem.1 h
    rw [List.mem_map]
    have key : ∀ n i, i ≤ n → (hi' : i < l.length) → ∃ a, a ∈ (List.range l.length).filter (keeps l.toArray) ∧ l.toArray[a]! = l[i] := by
      intro n
      induction n with
      | zero =>
        intro i hn hi'
        have : i = 0 := by omega
        subst this
        exact ⟨0, List.mem_filter.2 ⟨List.mem_range.2 hi', by simp [keeps]⟩, getElem!_pos l.toArray 0 (by simpa using hi')⟩
      | succ n ih =>
        intro i hn hi'
        by_cases k : keeps l.toArray i = true
        · exact ⟨i, List.mem_filter.2 ⟨List.mem_range.2 hi', k⟩, getElem!_pos l.toArray i (by simpa using hi')⟩
        · simp only [keeps, decide_eq_true_eq, not_or, Classical.not_not] at k
          obtain ⟨a, ha, e⟩ := ih (i - 1) (by omega) (by omega)
          refine ⟨a, ha, e.trans ?_⟩
          have k2 := k.2
          rw [getElem!_pos l.toArray i (by simpa using hi'), getElem!_pos l.toArray (i - 1) (by simp; omega)] at k2
          exact k2.symm
    obtain ⟨a, ha, e⟩ := key i i (Nat.le_refl _) hi
    exact ⟨a, ha, e⟩

theorem compact_sorted (l : List Int) (h : l.Pairwise (· ≤ ·)) : (Lib.compact l).Pairwise (· < ·) := by
  unfold Lib.compact compactUpTo
  rw [List.pairwise_map]
  have hr : (List.range l.length).Pairwise (fun i j => i < j) := List.pairwise_lt_range
  refine List.Pairwise.imp_of_mem ?_ (hr.filter (keeps l.toArray))
  intro i j hi hj hij
  obtain ⟨hi1, _⟩ := List.mem_filter.1 hi
  obtain ⟨hj1, hk⟩ := List.mem_filter.1 hj
  have hj' := List.mem_range.1 hj1
  simp only [keeps, decide_eq_true_eq] at hk
  rw [getElem!_pos l.toArray i (by simp; omega), getElem!_pos l.toArray j (by simpa using hj')]
  have hne : l.toArray[j]! ≠ l.toArray[j - 1]! := by
    rcases hk with h | h
    · omega
    · exact h
  rw [getElem!_pos l.toArray j (by simpa using hj'), getElem!_pos l.toArray (j - 1) (by simp; omega)] at hne
  simp only [List.getElem_toArray] at hne ⊢
  have h1 : l[j - 1] ≤ l[j] := List.pairwise_iff_getElem.1 h (j - 1) j (by omega) hj' (by omega)
  have h2 : l[i] ≤ l[j - 1] := by
    rcases Nat.lt_or_ge i (j - 1) with c | c
    · exact List.pairwise_iff_getElem.1 h i (j - 1) (by omega) (by omega) c
    · have : i = j - 1 := by omega
      subst this
      exact Int.le_refl _
  omega

def sdI (l : List Int) : List Int := Lib.compact (sortI l)
theorem mem_sortI' (l : List Int) (x : Int) : x ∈ sortI l ↔ x ∈ l := List.mem_mergeSort
theorem sortI_asc' (l : List Int) : (sortI l).Pairwise (· ≤ ·) := by
  have h := List.pairwise_mergeSort (le := fun x y : Int => decide (x ≤ y)) (fun a b c h1 h2 => by simp at *; omega) (fun a b => by simp; omega) l
  exact h.imp (fun h => by simpa using h)
theorem mem_sdI (l : List Int) (x : Int) : x ∈ sdI l ↔ x ∈ l := (mem_compact _ x).trans (mem_sortI' l x)
theorem sdI_sorted (l : List Int) : (sdI l).Pairwise (· < ·) := compact_sorted _ (sortI_asc' l)
theorem asc_ext : ∀ {l m : List Int}, l.Pairwise (· < ·) → m.Pairwise (· < ·) → (∀ x, x ∈ l ↔ x ∈ m) → l = m
  | [], [], _, _, _ => rfl
  | [], y :: m, _, _, h => absurd ((h y).2 (by simp)) (by simp)
  | x :: l, [], _, _, h => absurd ((h x).1 (by simp)) (by simp)
  | x :: l, y :: m, hl, hm, h => by
    obtain ⟨hl1, hl2⟩ := List.pairwise_cons.1 hl
    obtain ⟨hm1, hm2⟩ := List.pairwise_cons.1 hm
    have e : x = y := by
      rcases List.mem_cons.1 ((h x).1 (by simp)) with c | c
      · exact c
      · rcases List.mem_cons.1 ((h y).2 (by simp)) with d | d
        · exact d.symm
        · have := hl1 y d; have := hm1 x c; omega
    subst e
    rw [asc_ext hl2 hm2 (fun z => ⟨fun hz => ?_, fun hz => ?_⟩)]
    · rcases List.mem_cons.1 ((h z).1 (by simp [hz])) with c | c
      · have := hl1 z hz; omega
      · exact c
    · rcases List.mem_cons.1 ((h z).2 (by simp [hz])) with c | c
      · have := hm1 z hz; omega
      · exact c
theorem sdI_eq {l m : List Int} (hm : m.Pairwise (· < ·)) (h : ∀ x, x ∈ m ↔ x ∈ l) : sdI l = m := asc_ext (sdI_sorted l) hm (fun x => (mem_sdI l x).trans (h x).symm)
theorem sdI_len (l : List Int) : (sdI l).length ≤ l.length := by
  unfold sdI Lib.compact compactUpTo
  rw [List.length_map, ← sortI_len l]
  exact Nat.le_trans (List.length_filter_le _ _) (by simp)
end Go.Proofs.Ytdbnlmhffbopoaa.Xq
