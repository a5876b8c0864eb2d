/- Over lists and numbers alone: Apply of the program and of the reference agree. -/
import Derived.Test.YtdbnlmhffbopoaaGvPure2
import Derived.Test.YtdbnlmhffbopoaaGvSdI
import Derived.Test.YtdbnlmhffbopoaaXq8
set_option linter.unusedVariables false
set_option linter.unusedSimpArgs false
namespace Go.Proofs.Ytdbnlmhffbopoaa.Xq
open Go.RowKit Go.Proofs.YtdbnlmhffbopoaaW.PrintWords Go.Proofs.YtdbnlmhffbopoaaW.PrintLast Go.Proofs.Ytdbnlmhffbopoaa.Gv

def insA : List Int → Int → List Int
  | [], d => [d]
  | x :: t, d => if x = d then x :: t else if d < x then d :: x :: t else x :: insA t d
theorem mem_insA (x d : Int) : ∀ l, x ∈ insA l d ↔ x = d ∨ x ∈ l
  | [] => by simp [insA]
  | y :: t => by
    simp only [insA]
    split
    · rename_i h; subst h; simp
    · split
      · simp
      · rw [List.mem_cons, mem_insA x d t, List.mem_cons]
        constructor
        · rintro (h | h | h)
          · exact .inr (.inl h)
          · exact .inl h
          · exact .inr (.inr h)
        · rintro (h | h | h)
          · exact .inr (.inl h)
          · exact .inl h
          · exact .inr (.inr h)
theorem asc_insA (d : Int) : ∀ l : List Int, l.Pairwise (· < ·) → (insA l d).Pairwise (· < ·)
  | [], _ => by simp [insA]
  | y :: t, h => by
    obtain ⟨h1, h2⟩ := List.pairwise_cons.1 h
    simp only [insA]
    split
    · exact h
    · split
      · rename_i hd
        refine List.pairwise_cons.2 ⟨fun z hz => ?_, h⟩
        rcases List.mem_cons.1 hz with rfl | hz
        · exact hd
        · have := h1 z hz; omega
      · rename_i hne hd
        refine List.pairwise_cons.2 ⟨fun z hz => ?_, asc_insA d t h2⟩
        rcases (mem_insA z d t).1 hz with rfl | hz
        · omega
        · exact h1 z hz
theorem insA_sdI (l : List Int) (d : Int) : insA (sdI l) d = sdI (l ++ [d]) :=
  asc_ext (asc_insA d _ (sdI_sorted l)) (sdI_sorted _) fun x => by
    rw [mem_insA, mem_sdI, mem_sdI, List.mem_append, List.mem_singleton]
    exact Or.comm

theorem wf_put (l : List Int) (d : Int) (hb : l.length ≤ 1000000) : ∀ (m i k : Nat) (out : List Int), l.length - i = m → i ≤ l.length → m < k → out.length + m ≤ 3000000 → (∀ j (hj : j < l.length), i ≤ j → l[j] ≠ d) → dataflowref29_WithFact.l0 k l d out true (i : Int) = some (out ++ l.drop i) := by
  intro m
  induction m with
  | zero =>
    intro i k out hm hi hk ho hne
    obtain ⟨k, rfl⟩ : ∃ m, k = m + 1 := ⟨k - 1, by omega⟩
    simp only [dataflowref29_WithFact.l0]
    rw [if_neg (by omega), List.drop_eq_nil_of_le (by omega)]
    simp
  | succ m ih =>
    intro i k out hm hi hk ho hne
    obtain ⟨k, rfl⟩ : ∃ m, k = m + 1 := ⟨k - 1, by omega⟩
    have hlt : i < l.length := by omega
    simp only [dataflowref29_WithFact.l0]
    rw [if_pos (by omega), if_pos (by omega), rdI l i hlt, if_neg (hne i hlt (Nat.le_refl _)), if_pos trivial, if_pos (by omega), wrap_s (by omega) (by omega), show ((i : Int) + 1) = ((i + 1 : Nat) : Int) by omega,
      ih (i + 1) k _ (by omega) (by omega) (by omega) (by simp; omega) (fun j hj h => hne j hj (by omega)), List.drop_eq_getElem_cons hlt]
    simp
theorem wf_l0 (l : List Int) (d : Int) (hb : l.length ≤ 1000000) (ha : l.Pairwise (· < ·)) : ∀ (m i k : Nat), l.length - i = m → i ≤ l.length → m < k → dataflowref29_WithFact.l0 k l d (l.take i) false (i : Int) = some (l.take i ++ insA (l.drop i) d) := by
  intro m
  induction m with
  | zero =>
    intro i k hm hi hk
    obtain ⟨k, rfl⟩ : ∃ m, k = m + 1 := ⟨k - 1, by omega⟩
    simp only [dataflowref29_WithFact.l0]
    rw [if_neg (by omega), List.drop_eq_nil_of_le (by omega), if_neg (by decide), if_pos (by simp; omega)]
    simp [insA]
  | succ m ih =>
    intro i k hm hi hk
    obtain ⟨k, rfl⟩ : ∃ m, k = m + 1 := ⟨k - 1, by omega⟩
    have hlt : i < l.length := by omega
    have hd : l.drop i = l[i] :: l.drop (i + 1) := List.drop_eq_getElem_cons hlt
    simp only [dataflowref29_WithFact.l0]
    rw [if_pos (by omega), if_pos (by omega), rdI l i hlt, hd]
    simp only [insA]
    by_cases e : l[i] = d
    · rw [if_pos e, if_pos e, ← hd, List.take_append_drop]
    · rw [if_neg e, if_neg e, if_neg (by decide)]
      by_cases c : d < l[i]
      · rw [if_pos c, if_pos c, if_pos (by simp; omega)]
        simp only [Option.bind_some]
        rw [if_pos (by simp; omega), wrap_s (by omega) (by omega), show ((i : Int) + 1) = ((i + 1 : Nat) : Int) by omega, wf_put l d hb m (i + 1) k _ (by omega) (by omega) (by omega) (by simp; omega)]
        · simp
        · intro j hj hij
          have := List.pairwise_iff_getElem.1 ha i j hlt hj (by omega)
          omega
      · rw [if_neg c, if_neg c, if_pos (by simp; omega), wrap_s (by omega) (by omega), show ((i : Int) + 1) = ((i + 1 : Nat) : Int) by omega, ← List.take_succ_eq_append_getElem hlt, ih (i + 1) k (by omega) (by omega) (by omega), List.take_succ_eq_append_getElem hlt, List.append_assoc]
        rfl
theorem withFact_eq (l : List Int) (d : Int) (hb : l.length ≤ 1000000) (ha : l.Pairwise (· < ·)) (k : Nat) (hk : l.length < k) : dataflowref29_WithFact.f k l d = some (insA l d) := by
  have := wf_l0 l d hb ha l.length 0 k (by omega) (by omega) hk
  simpa [dataflowref29_WithFact.f] using this

theorem refApply_l0 (f : List S44) (l : List Int) (hf : f.length ≤ 100000) (hl : l.length ≤ 100000) : ∀ (m i k : Nat), f.length - i = m → i ≤ f.length → m + f.length + l.length + 5 ≤ k → dataflowref29_Apply.l0 k f l (sdI (outF (f.take i) l)) (i : Int) = some (sdI (outF f l)) := by
  intro m
  induction m with
  | zero =>
    intro i k hm hi hk
    obtain ⟨k, rfl⟩ : ∃ m, k = m + 1 := ⟨k - 1, by omega⟩
    simp only [dataflowref29_Apply.l0]
    rw [if_neg (by omega), List.take_of_length_le (by omega)]
  | succ m ih =>
    intro i k hm hi hk
    obtain ⟨k, rfl⟩ : ∃ m, k = m + 1 := ⟨k - 1, by omega⟩
    have hlt : i < f.length := by omega
    have hs := outF_succ f l i hlt
    have hlen : (sdI (outF (f.take i) l)).length ≤ f.length := Nat.le_trans (sdI_len _) (Nat.le_trans (outF_len _ _) (by simp; omega))
    have hw : ∀ d, dataflowref29_WithFact.f k (sdI (outF (f.take i) l)) d = some (sdI (outF (f.take i) l ++ [d])) := fun d => by
      rw [withFact_eq _ d (by omega) (sdI_sorted _) k (by omega), insA_sdI]
    have ih' := ih (i + 1) k (by omega) (by omega) (by omega)
    simp only [dataflowref29_Apply.l0]
    rw [if_pos (by omega), if_pos (by omega), rdP f i hlt, wrap_s (by omega) (by omega), show ((i : Int) + 1) = ((i + 1 : Nat) : Int) by omega]
    by_cases h1 : (f[i]).f1 = 0
    · rw [if_pos h1]
      rw [if_neg (fun h => h.1 h1), List.append_nil] at hs
      rw [← hs]
      exact ih'
    · rw [if_neg h1]
      by_cases h2 : (f[i]).f0 = 0
      · rw [if_pos h2, hw]
        rw [if_pos ⟨h1, .inr h2⟩] at hs
        simp only [Option.bind_some]
        rw [← hs]
        exact ih'
      · rw [if_neg h2, has_eq l _ (by omega) k (by omega)]
        simp only [Option.bind_some]
        by_cases h3 : (f[i]).f0 ∈ l
        · rw [if_pos (decide_eq_true h3), hw]
          rw [if_pos ⟨h1, .inl h3⟩] at hs
          simp only [Option.bind_some]
          rw [← hs]
          exact ih'
        · rw [if_neg (by simpa using h3)]
          rw [if_neg (fun h => h.2.elim h3 h2), List.append_nil] at hs
          rw [← hs]
          exact ih'
theorem refApply_eq (f : List S44) (l : List Int) (hf : f.length ≤ 100000) (hl : l.length ≤ 100000) (k : Nat) (hk : 2 * f.length + l.length + 5 ≤ k) : dataflowref29_Apply.f k f l = some (sdI (outF f l)) := by
  have := refApply_l0 f l hf hl f.length 0 k (by omega) (by omega) (by omega)
  rw [List.take_zero, show sdI (outF [] l) = [] from List.eq_nil_of_length_eq_zero (by have := sdI_len (outF [] l); simpa [outF] using this)] at this
  exact this
theorem facts_l0 (a : List Int) (hb : a.length ≤ 4611686018427387904) : ∀ (m i k : Nat), a.length - i = m → i ≤ a.length → m < k → dataflowlaw29_facts.l0 k a a (i : Int) = some true := by
  intro m
  induction m with
  | zero =>
    intro i k hm hi hk
    obtain ⟨k, rfl⟩ : ∃ m, k = m + 1 := ⟨k - 1, by omega⟩
    simp only [dataflowlaw29_facts.l0]
    rw [if_neg (by omega)]
  | succ m ih =>
    intro i k hm hi hk
    obtain ⟨k, rfl⟩ : ∃ m, k = m + 1 := ⟨k - 1, by omega⟩
    simp only [dataflowlaw29_facts.l0]
    rw [if_pos (by omega), if_pos (by omega), if_pos (by omega), if_pos trivial, wrap_s (by omega) (by omega), show ((i : Int) + 1) = ((i + 1 : Nat) : Int) by omega]
    exact ih (i + 1) k (by omega) (by omega) (by omega)
theorem facts_refl (a : List Int) (hb : a.length ≤ 4611686018427387904) (k : Nat) (hk : a.length < k) : dataflowlaw29_facts.f k a a = some true := by
  unfold dataflowlaw29_facts.f
  rw [if_pos rfl]
  exact facts_l0 a hb a.length 0 k (by omega) (by omega) hk

theorem FlowApply_pure (f : List S44) (l : List Int) : ∃ k, dataflowlaw29_FlowApply.f k f l = some true := by
  refine ⟨2001, ?_⟩
  unfold dataflowlaw29_FlowApply.f
  by_cases h1 : (f.length : Int) > 300
  · rw [if_pos h1]; rfl
  · rw [if_neg h1]
    by_cases h2 : (l.length : Int) > 100
    · rw [decide_eq_true h2]; rfl
    · rw [decide_eq_false h2]
      simp only [dataflowlaw29_FlowApply.j0]
      have hlen : (sdI (outF f l)).length ≤ f.length := Nat.le_trans (sdI_len _) (outF_len _ _)
      rw [if_neg (by decide), show flow_Apply.f f l = some (sdI (outF f l)) by unfold flow_Apply.f; rw [if_pos (by omega)]; rfl, refApply_eq f l (by omega) (by omega) 2000 (by omega)]
      simp only [Option.bind_some]
      rw [facts_refl _ (by omega) 2000 (by omega)]
      simp only [Option.bind_some]
      rw [if_pos trivial, knows_eq 2000 (by omega)]
      rfl
theorem FlowApply_row (f : List S44) (l : List Int) (_ : f.length * 16 ≤ 140737488351232) (_ : l.length * 8 ≤ 140737488351232) : ∃ k, dataflowlaw29_FlowApply.f k f l = some true := FlowApply_pure f l
end Go.Proofs.Ytdbnlmhffbopoaa.Xq
