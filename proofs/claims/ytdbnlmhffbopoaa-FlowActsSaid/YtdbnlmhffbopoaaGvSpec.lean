/- sortDedup, over lists alone: its result ascends strictly and has the same elements. -/
import Derived.Test.YtdbnlmhffbopoaaGvSorted
set_option linter.unusedVariables false
set_option linter.unusedSimpArgs false
namespace Go.Proofs.Ytdbnlmhffbopoaa.Xq
open Go.Lib Go.Sort Go.Proofs.Ytdbnlmhffbopoaa.Gv

def LtP (x y : Int × Int) : Prop := x.1 < y.1 ∨ (x.1 = y.1 ∧ x.2 < y.2)
theorem ltP_iff (x y : Int × Int) : ltP x y = true ↔ LtP x y := by simp [ltP, LtP]
theorem LtP.trans {x y z : Int × Int} (h : LtP x y) (k : LtP y z) : LtP x z := by unfold LtP at *; omega
theorem LtP.irrefl (x : Int × Int) : ¬ LtP x x := by unfold LtP; omega
theorem LtP.of_ne {x y : Int × Int} (h : ¬ LtP y x) (hne : x ≠ y) : LtP x y := by
  unfold LtP at *
  have : ¬ (x.1 = y.1 ∧ x.2 = y.2) := fun e => hne (Prod.ext e.1 e.2)
  omega

/-- Two ascending lists with the same elements are one. -/
theorem sorted_ext : ∀ {l m : List (Int × Int)}, l.Pairwise LtP → m.Pairwise LtP → (∀ x, x ∈ l ↔ x ∈ m) → l = m
  | [], [], _, _, _ => rfl
  | [], y :: m, _, _, h => by have := (h y).2 List.mem_cons_self; simp at this
  | x :: l, [], _, _, h => by have := (h x).1 List.mem_cons_self; simp at this
  | x :: l, y :: m, hl, hm, h => by
    obtain ⟨h1, h2⟩ := List.pairwise_cons.1 hl
    obtain ⟨k1, k2⟩ := List.pairwise_cons.1 hm
    have e : x = y := by
      rcases List.mem_cons.1 ((h x).1 List.mem_cons_self) with e | e
      · exact e
      · rcases List.mem_cons.1 ((h y).2 List.mem_cons_self) with e' | e'
        · exact e'.symm
        · exact absurd ((k1 x e).trans (h1 y e')) (LtP.irrefl _)
    subst e
    rw [sorted_ext h2 k2 (fun z => ⟨fun hz => ?_, fun hz => ?_⟩)]
    · rcases List.mem_cons.1 ((h z).1 (List.mem_cons_of_mem _ hz)) with e | e
      · subst e; exact absurd (h1 z hz) (LtP.irrefl _)
      · exact e
    · rcases List.mem_cons.1 ((h z).2 (List.mem_cons_of_mem _ hz)) with e | e
      · subst e; exact absurd (k1 z hz) (LtP.irrefl _)
      · exact e

theorem srtP_spec (d : Array (Int × Int)) : (∀ i j, i < j → j < d.size → ¬ LtP (srtP d)[j]! (srtP d)[i]!) ∧ (∀ x, x ∈ (srtP d).toList ↔ x ∈ d.toList) := by
  obtain ⟨hp, hs⟩ := pdq_sorts (ltOf cmpP) swoP d 0 d.size (Lib.bitLen d.size) true true (Nat.zero_le _) (Nat.le_refl _) (Or.inl rfl)
  change PermIn 0 d.size d (srtP d) at hp
  change SortedIn (ltOf cmpP) 0 d.size (srtP d) at hs
  refine ⟨fun i j hij hj h => ?_, fun x => ?_⟩
  · have z := hs i j (Nat.zero_le _) hij hj
    rw [lt_cmpP] at z
    rw [(ltP_iff _ _).2 h] at z
    cases z
  · have z := hp.2.2
    rw [Array.extract_eq_self_of_le (Nat.le_refl _), Array.extract_eq_self_of_le (by rw [hp.1]; exact Nat.le_refl _)] at z
    exact z.mem_iff

theorem pairwise_range_map {d : Array (Int × Int)} {p : Nat → Bool} {n : Nat} (h : ∀ i j, i < j → j < n → p i = true → p j = true → LtP d[i]! d[j]!) : (((List.range n).filter p).map (d[·]!)).Pairwise LtP := by
  rw [List.pairwise_map]
  have hr : (List.range n).Pairwise (fun i j => i < j) := List.pairwise_lt_range
  have h2 := (hr.filter p)
  refine List.Pairwise.imp_of_mem ?_ h2
  intro i j hi hj hij
  obtain ⟨hi1, hi2⟩ := List.mem_filter.1 hi
  obtain ⟨hj1, hj2⟩ := List.mem_filter.1 hj
  exact h i j hij (List.mem_range.1 hj1) hi2 hj2

theorem sortDedup_sorted (l : List (Int × Int)) : (sortDedup l).Pairwise LtP := by
  unfold sortDedup compactUpTo
  obtain ⟨hs, _⟩ := srtP_spec l.toArray
  have hz := srtP_size l.toArray
  refine pairwise_range_map fun i j hij hj _ hk => ?_
  rw [hz] at hj
  have hne : (srtP l.toArray)[j]! ≠ (srtP l.toArray)[j - 1]! := by
    simp only [keeps, decide_eq_true_eq] at hk
    rcases hk with h | h
    · omega
    · exact h
  have h1 : LtP (srtP l.toArray)[j - 1]! (srtP l.toArray)[j]! := LtP.of_ne (hs (j - 1) j (by omega) hj) (Ne.symm hne)
  by_cases e : i = j - 1
  · rw [e]; exact h1
  · by_cases c : (srtP l.toArray)[i]! = (srtP l.toArray)[j - 1]!
    · rw [c]; exact h1
    · exact (LtP.of_ne (hs i (j - 1) (by omega) (by omega)) c).trans h1

theorem mem_sortDedup (l : List (Int × Int)) (x : Int × Int) : x ∈ sortDedup l ↔ x ∈ l := by
  unfold sortDedup compactUpTo
  obtain ⟨_, hm⟩ := srtP_spec l.toArray
  have hz := srtP_size l.toArray
  rw [show (x ∈ l) = (x ∈ l.toArray.toList) by simp, ← hm x]
  generalize srtP l.toArray = s at hz
  constructor
  · intro h
    obtain ⟨i, hi, rfl⟩ := List.mem_map.1 h
    have hi' := List.mem_range.1 (List.mem_filter.1 hi).1
    rw [getElem!_pos s i hi']
    exact Array.getElem_mem_toList hi'
  · intro h
    obtain ⟨i, hi, rfl⟩ := List.mem_iff_getElem.1 h
    have hi' : i < s.size := by simpa using hi
    rw [List.mem_map]
    clear hm hz
    have key : ∀ n i, i ≤ n → (hi' : i < s.size) → ∃ a, a ∈ (List.range s.size).filter (keeps s) ∧ s[a]! = s[i] := by
      intro n
      induction n with
      | zero =>
        intro i hn hi'
        have : i = 0 := by omega
        subst this
        exact ⟨0, List.mem_filter.2 ⟨List.mem_range.2 hi', by simp [keeps]⟩, getElem!_pos s 0 hi'⟩
      | succ n ih =>
        intro i hn hi'
        by_cases k : keeps s i = true
        · exact ⟨i, List.mem_filter.2 ⟨List.mem_range.2 hi', k⟩, getElem!_pos s i hi'⟩
        · simp only [keeps, decide_eq_true_eq, not_or, Classical.not_not] at k
          obtain ⟨a, ha, e⟩ := ih (i - 1) (by omega) (by omega)
          refine ⟨a, ha, e.trans ?_⟩
          have k2 := k.2
          rw [getElem!_pos s i hi', getElem!_pos s (i - 1) (by omega)] at k2
          exact k2.symm
    obtain ⟨a, ha, e⟩ := key i i (Nat.le_refl _) hi'
    exact ⟨a, ha, e⟩

theorem sortDedup_eq {l m : List (Int × Int)} (hm : m.Pairwise LtP) (h : ∀ x, x ∈ m ↔ x ∈ l) : sortDedup l = m :=
  sorted_ext (sortDedup_sorted l) hm (fun x => (mem_sortDedup l x).trans (h x).symm)
end Go.Proofs.Ytdbnlmhffbopoaa.Xq
