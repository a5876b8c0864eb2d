/- Over lists and numbers alone: Compose and Union of the program and of the reference agree. -/
import Derived.Test.YtdbnlmhffbopoaaGvPure2
import Derived.Test.YtdbnlmhffbopoaaGvUnion
import Derived.Test.YtdbnlmhffbopoaaXq12
set_option linter.unusedVariables false
set_option linter.unusedSimpArgs false
namespace Go.Proofs.Ytdbnlmhffbopoaa.Xq
open Go.RowKit Go.Proofs.YtdbnlmhffbopoaaW.PrintWords Go.Proofs.YtdbnlmhffbopoaaW.PrintLast Go.Proofs.Ytdbnlmhffbopoaa.Gv

def insP : List S44 → S44 → List S44
  | [], d => [d]
  | x :: t, d => if x = d then x :: t else if LtP (toP d) (toP x) then d :: x :: t else x :: insP t d
theorem toP_inj {x y : S44} (h : toP x = toP y) : x = y := by
  cases x; cases y; simp [toP] at h; simp [h]
theorem mem_insP (x d : S44) : ∀ l, x ∈ insP l d ↔ x = d ∨ x ∈ l
  | [] => by simp [insP]
  | y :: t => by
    simp only [insP]
    split
    · rename_i h; subst h; simp
    · split
      · simp
      · rw [List.mem_cons, mem_insP x d t, List.mem_cons]
        constructor
        · rintro (h | h | h)
          · exact .inr (.inl h)
          · exact .inl h
          · exact .inr (.inr h)
        · rintro (h | h | h)
          · exact .inr (.inl h)
          · exact .inl h
          · exact .inr (.inr h)
theorem asc_insP (d : S44) : ∀ l : List S44, (l.map toP).Pairwise LtP → ((insP l d).map toP).Pairwise LtP
  | [], _ => by simp [insP]
  | y :: t, h => by
    obtain ⟨h1, h2⟩ := List.pairwise_cons.1 h
    simp only [insP]
    split
    · exact h
    · split
      · rename_i hd
        refine List.pairwise_cons.2 ⟨fun z hz => ?_, h⟩
        rcases List.mem_cons.1 hz with rfl | hz
        · exact hd
        · exact hd.trans (h1 z hz)
      · rename_i hne hd
        refine List.pairwise_cons.2 ⟨fun z hz => ?_, asc_insP d t h2⟩
        obtain ⟨u, hu, rfl⟩ := List.mem_map.1 hz
        rcases (mem_insP u d t).1 hu with rfl | hu
        · exact LtP.of_ne hd (fun e => hne (toP_inj e))
        · exact h1 _ (List.mem_map.2 ⟨u, hu, rfl⟩)
/-- pairs in order, each once -/
def sdP (l : List (Int × Int)) : List S44 := (sortDedup l).map ofP
theorem sdP_toP (l : List (Int × Int)) : (sdP l).map toP = sortDedup l := by
  unfold sdP
  rw [List.map_map, show toP ∘ ofP = id from rfl, List.map_id]
theorem sdP_len (l : List (Int × Int)) : (sdP l).length ≤ l.length := by
  unfold sdP
  rw [List.length_map]
  exact sortDedup_len l
theorem mem_sdP (l : List (Int × Int)) (x : S44) : x ∈ sdP l ↔ toP x ∈ l := by
  unfold sdP
  rw [List.mem_map]
  constructor
  · rintro ⟨q, hq, rfl⟩; exact (mem_sortDedup _ _).1 hq
  · intro h; exact ⟨toP x, (mem_sortDedup _ _).2 h, rfl⟩
theorem map_toP_inj {a b : List S44} (h : a.map toP = b.map toP) : a = b := by
  rw [← map_ofP_toP a, ← map_ofP_toP b, h]
theorem insP_sdP (l : List (Int × Int)) (d : S44) : insP (sdP l) d = sdP (l ++ [toP d]) := by
  apply map_toP_inj
  refine sorted_ext (asc_insP d _ (by rw [sdP_toP]; exact sortDedup_sorted l)) (by rw [sdP_toP]; exact sortDedup_sorted _) fun x => ?_
  rw [sdP_toP, mem_sortDedup, List.mem_append, List.mem_singleton, List.mem_map]
  constructor
  · rintro ⟨y, hy, rfl⟩
    rcases (mem_insP y d _).1 hy with rfl | hy
    · exact .inr rfl
    · exact .inl ((mem_sdP l y).1 hy)
  · rintro (h | h)
    · exact ⟨ofP x, (mem_insP _ d _).2 (.inr ((mem_sdP l _).2 h)), rfl⟩
    · exact ⟨d, (mem_insP _ d _).2 (.inl rfl), h.symm⟩

theorem eq_test (x y : S44) : ((x.f0 == y.f0 && x.f1 == y.f1) = true) ↔ x = y := by
  cases x; cases y; simp
theorem wp_put (l : List S44) (d : S44) (hb : l.length ≤ 1000000) : ∀ (m i k : Nat) (out : List S44), l.length - i = m → i ≤ l.length → m < k → out.length + m ≤ 3000000 → (∀ j (hj : j < l.length), i ≤ j → l[j] ≠ d) → dataflowref29_With.l0 k l out true (i : Int) d.f0 d.f1 = some (out ++ l.drop i) := by
  intro m
  induction m with
  | zero =>
    intro i k out hm hi hk ho hne
    obtain ⟨k, rfl⟩ : ∃ m, k = m + 1 := ⟨k - 1, by omega⟩
    simp only [dataflowref29_With.l0]
    rw [if_neg (by omega), List.drop_eq_nil_of_le (by omega)]
    simp
  | succ m ih =>
    intro i k out hm hi hk ho hne
    obtain ⟨k, rfl⟩ : ∃ m, k = m + 1 := ⟨k - 1, by omega⟩
    have hlt : i < l.length := by omega
    simp only [dataflowref29_With.l0]
    rw [if_pos (by omega), if_pos (by omega), rdP l i hlt, if_neg (fun h => hne i hlt (Nat.le_refl _) ((eq_test _ _).1 h)), if_pos trivial, if_pos (by omega), wrap_s (by omega) (by omega), show ((i : Int) + 1) = ((i + 1 : Nat) : Int) by omega,
      ih (i + 1) k _ (by omega) (by omega) (by omega) (by simp; omega) (fun j hj h => hne j hj (by omega)), List.drop_eq_getElem_cons hlt, List.append_assoc]
    rfl
theorem wp_l0 (l : List S44) (d : S44) (hb : l.length ≤ 1000000) (ha : (l.map toP).Pairwise LtP) : ∀ (m i k : Nat), l.length - i = m → i ≤ l.length → m < k → dataflowref29_With.l0 k l (l.take i) false (i : Int) d.f0 d.f1 = some (l.take i ++ insP (l.drop i) d) := by
  intro m
  induction m with
  | zero =>
    intro i k hm hi hk
    obtain ⟨k, rfl⟩ : ∃ m, k = m + 1 := ⟨k - 1, by omega⟩
    simp only [dataflowref29_With.l0]
    rw [if_neg (by omega), List.drop_eq_nil_of_le (by omega), if_neg (by decide), if_pos (by simp; omega)]
    simp [insP]
  | succ m ih =>
    intro i k hm hi hk
    obtain ⟨k, rfl⟩ : ∃ m, k = m + 1 := ⟨k - 1, by omega⟩
    have hlt : i < l.length := by omega
    have hd : l.drop i = l[i] :: l.drop (i + 1) := List.drop_eq_getElem_cons hlt
    simp only [dataflowref29_With.l0]
    rw [if_pos (by omega), if_pos (by omega), rdP l i hlt, hd]
    simp only [insP]
    by_cases e : l[i] = d
    · rw [if_pos ((eq_test _ _).2 e), if_pos e, ← hd, List.take_append_drop]
    · rw [if_neg (fun h => e ((eq_test _ _).1 h)), if_neg e, if_neg (by decide), before_eq d l[i]]
      simp only [Option.bind_some]
      by_cases c : LtP (toP d) (toP l[i])
      · rw [if_pos (decide_eq_true c), if_pos c, if_pos (by simp; omega), if_pos (by simp; omega), wrap_s (by omega) (by omega), show ((i : Int) + 1) = ((i + 1 : Nat) : Int) by omega, wp_put l d hb m (i + 1) k _ (by omega) (by omega) (by omega) (by simp; omega)]
        · simp only [List.append_assoc, List.cons_append, List.nil_append]
        · intro j hj hij e
          have := List.pairwise_iff_getElem.1 ha i j (by simpa using hlt) (by simpa using hj) (by omega)
          simp only [List.getElem_map] at this
          rw [e] at this
          exact LtP.irrefl _ (c.trans this)
      · rw [if_neg (by simpa using c), if_neg c, if_pos (by simp; omega), wrap_s (by omega) (by omega), show ((i : Int) + 1) = ((i + 1 : Nat) : Int) by omega, show (⟨(l[i]).f0, (l[i]).f1⟩ : S44) = l[i] from rfl, ← List.take_succ_eq_append_getElem hlt, ih (i + 1) k (by omega) (by omega) (by omega), List.take_succ_eq_append_getElem hlt, List.append_assoc]
        rfl
theorem with_eq (l : List S44) (d : S44) (hb : l.length ≤ 1000000) (ha : (l.map toP).Pairwise LtP) (k : Nat) (hk : l.length < k) : dataflowref29_With.f k l d.f0 d.f1 = some (insP l d) := by
  have := wp_l0 l d hb ha l.length 0 k (by omega) (by omega) hk
  simpa [dataflowref29_With.f] using this
theorem with_sdP (l : List (Int × Int)) (d : S44) (hb : l.length ≤ 1000000) (k : Nat) (hk : l.length < k) : dataflowref29_With.f k (sdP l) d.f0 d.f1 = some (sdP (l ++ [toP d])) := by
  have := sdP_len l
  rw [with_eq (sdP l) d (by omega) (by rw [sdP_toP]; exact sortDedup_sorted l) k (by omega), insP_sdP]

def rowM (x : S44) (g : List S44) : List (Int × Int) := (fromL g x.f1).map fun y => (x.f0, y.f1)
theorem rowM_len (x : S44) (g : List S44) : (rowM x g).length ≤ g.length := by
  unfold rowM
  rw [List.length_map]
  exact fromL_len g _
theorem meets_len (f g : List S44) : (meets f g).length ≤ f.length * g.length := by
  unfold meets
  induction f with
  | nil => simp
  | cons x t ih =>
    rw [List.flatMap_cons, List.length_append, List.length_map, List.length_cons, Nat.succ_mul]
    have := fromL_len g x.f1
    omega
theorem meets_succ (f g : List S44) (i : Nat) (h : i < f.length) : meets (f.take (i + 1)) g = meets (f.take i) g ++ rowM f[i] g := by
  unfold meets rowM
  rw [List.take_succ_eq_append_getElem h, List.flatMap_append]
  simp
theorem rowM_succ (x : S44) (g : List S44) (j : Nat) (h : j < g.length) : rowM x (g.take (j + 1)) = rowM x (g.take j) ++ if x.f1 = (g[j]).f0 then [(x.f0, (g[j]).f1)] else [] := by
  unfold rowM fromL
  rw [List.take_succ_eq_append_getElem h, List.filter_append, List.map_append]
  congr 1
  by_cases e : x.f1 = (g[j]).f0
  · rw [if_pos e, List.filter_cons_of_pos (by simp [e])]; rfl
  · rw [if_neg e, List.filter_cons_of_neg (by simpa using fun h => e h.symm)]; rfl

theorem refCompose_l (f g : List S44) (hf : f.length ≤ 300) (hg : g.length ≤ 300) : ∀ (m k i j : Nat), i < f.length → j ≤ g.length → (f.length - i) * (g.length + 2) - j = m → m + 100000 ≤ k → dataflowref29_Compose.l1 k f g (sdP (meets (f.take i) g ++ rowM (f.getD i z44) (g.take j))) (i : Int) (j : Int) = some (sdP (meets f g)) := by
  intro m
  induction m using Nat.strongRecOn with
  | _ m ih =>
    intro k i j hi hj hm hk
    obtain ⟨k, rfl⟩ : ∃ m, k = m + 1 := ⟨k - 1, by omega⟩
    have hfi : f.getD i z44 = f[i] := by simp [hi]
    have e1 := meets_len (f.take i) g
    have e2 : (f.take i).length * g.length ≤ 300 * 300 := Nat.mul_le_mul (by simp; omega) hg
    have e3 := rowM_len f[i] (g.take j)
    have e4 : (g.take j).length ≤ 300 := by simp; omega
    have e5 : (f.length - i) * (g.length + 2) = (f.length - (i + 1)) * (g.length + 2) + (g.length + 2) := by
      rw [show f.length - i = (f.length - (i + 1)) + 1 by omega, Nat.succ_mul]
    simp only [dataflowref29_Compose.l1]
    by_cases hjl : j < g.length
    · rw [if_pos (by omega), if_pos (by omega), if_pos (by omega), if_pos (by omega), rdP f i hi, rdP g j hjl, hfi, wrap_s (by omega) (by omega), show ((j : Int) + 1) = ((j + 1 : Nat) : Int) by omega]
      have hs := rowM_succ f[i] g j hjl
      have ih' := ih (m - 1) (by omega) k i (j + 1) hi (by omega) (by omega) (by omega)
      rw [hfi] at ih'
      by_cases e : (f[i]).f1 = (g[j]).f0
      · rw [if_pos e, show dataflowref29_With.f k _ (f[i]).f0 (g[j]).f1 = _ from with_sdP _ (⟨(f[i]).f0, (g[j]).f1⟩ : S44) (by simp; omega) k (by simp; omega)]
        simp only [Option.bind_some]
        rw [if_pos e] at hs
        rw [List.append_assoc, show [toP (⟨(f[i]).f0, (g[j]).f1⟩ : S44)] = [((f[i]).f0, (g[j]).f1)] from rfl, ← hs]
        exact ih'
      · rw [if_neg e]
        rw [if_neg e, List.append_nil] at hs
        rw [← hs]
        exact ih'
    · obtain rfl : j = g.length := by omega
      rw [if_neg (by omega), hfi, List.take_length, ← meets_succ f g i hi, wrap_s (by omega) (by omega), show ((i : Int) + 1) = ((i + 1 : Nat) : Int) by omega]
      obtain ⟨k, rfl⟩ : ∃ m, k = m + 1 := ⟨k - 1, by omega⟩
      simp only [dataflowref29_Compose.l0]
      by_cases hil : i + 1 < f.length
      · rw [if_pos (by omega)]
        have ih' := ih (m - 2) (by omega) k (i + 1) 0 hil (by omega) (by omega) (by omega)
        rw [List.take_zero, show rowM (f.getD (i + 1) z44) [] = [] from rfl, List.append_nil] at ih'
        exact ih'
      · rw [if_neg (by omega), List.take_of_length_le (by omega)]
theorem sdP_nil : sdP [] = [] := List.eq_nil_of_length_eq_zero (by have := sdP_len []; simpa using this)
theorem refCompose_eq (f g : List S44) (hf : f.length ≤ 300) (hg : g.length ≤ 300) (k : Nat) (hk : 300000 ≤ k) : dataflowref29_Compose.f k f g = some (sdP (meets f g)) := by
  obtain ⟨k, rfl⟩ : ∃ m, k = m + 1 := ⟨k - 1, by omega⟩
  unfold dataflowref29_Compose.f
  simp only [dataflowref29_Compose.l0]
  by_cases h : 0 < f.length
  · rw [if_pos (by omega)]
    have h1 : (f.length - 0) * (g.length + 2) ≤ 300 * 302 := Nat.mul_le_mul (by omega) (by omega)
    have := refCompose_l f g hf hg _ k 0 0 h (Nat.zero_le _) rfl (by omega)
    rw [List.take_zero, List.take_zero, show meets [] g = [] from rfl, show rowM (f.getD 0 z44) [] = [] from rfl, List.append_nil, sdP_nil] at this
    exact this
  · rw [if_neg (by omega)]
    obtain rfl : f = [] := List.eq_nil_of_length_eq_zero (by omega)
    rw [show meets [] g = [] from rfl, sdP_nil]

theorem refUnion_l1 (g : List S44) (X : List (Int × Int)) (hX : X.length ≤ 1000) (hg : g.length ≤ 1000) : ∀ (m i k : Nat), g.length - i = m → i ≤ g.length → m + 3000 ≤ k → dataflowref29_Union.l1 k g (sdP (X ++ (g.take i).map toP)) (i : Int) = some (sdP (X ++ g.map toP)) := by
  intro m
  induction m with
  | zero =>
    intro i k hm hi hk
    obtain ⟨k, rfl⟩ : ∃ m, k = m + 1 := ⟨k - 1, by omega⟩
    simp only [dataflowref29_Union.l1]
    rw [if_neg (by omega), List.take_of_length_le (by omega)]
  | succ m ih =>
    intro i k hm hi hk
    obtain ⟨k, rfl⟩ : ∃ m, k = m + 1 := ⟨k - 1, by omega⟩
    have hlt : i < g.length := by omega
    simp only [dataflowref29_Union.l1]
    rw [if_pos (by omega), if_pos (by omega), rdP g i hlt, with_sdP _ g[i] (by simp; omega) k (by simp; omega), wrap_s (by omega) (by omega), show ((i : Int) + 1) = ((i + 1 : Nat) : Int) by omega]
    simp only [Option.bind_some]
    have := ih (i + 1) k (by omega) (by omega) (by omega)
    rw [List.take_succ_eq_append_getElem hlt, List.map_append, ← List.append_assoc] at this
    exact this
theorem refUnion_l0 (f g : List S44) (hf : f.length ≤ 1000) (hg : g.length ≤ 1000) : ∀ (m i k : Nat), f.length - i = m → i ≤ f.length → m + g.length + 4000 ≤ k → dataflowref29_Union.l0 k f g (sdP ((f.take i).map toP)) (i : Int) = some (sdP ((f ++ g).map toP)) := by
  intro m
  induction m with
  | zero =>
    intro i k hm hi hk
    obtain ⟨k, rfl⟩ : ∃ m, k = m + 1 := ⟨k - 1, by omega⟩
    simp only [dataflowref29_Union.l0]
    rw [if_neg (by omega), List.take_of_length_le (by omega)]
    have := refUnion_l1 g (f.map toP) (by simpa using hf) hg g.length 0 k (by omega) (by omega) (by omega)
    rw [List.take_zero, List.map_nil, List.append_nil] at this
    rw [List.map_append]
    exact this
  | succ m ih =>
    intro i k hm hi hk
    obtain ⟨k, rfl⟩ : ∃ m, k = m + 1 := ⟨k - 1, by omega⟩
    have hlt : i < f.length := by omega
    simp only [dataflowref29_Union.l0]
    rw [if_pos (by omega), if_pos (by omega), rdP f i hlt, with_sdP _ f[i] (by simp; omega) k (by simp; omega), wrap_s (by omega) (by omega), show ((i : Int) + 1) = ((i + 1 : Nat) : Int) by omega]
    simp only [Option.bind_some]
    have := ih (i + 1) k (by omega) (by omega) (by omega)
    rw [List.take_succ_eq_append_getElem hlt, List.map_append] at this
    exact this
theorem refUnion_eq (f g : List S44) (hf : f.length ≤ 1000) (hg : g.length ≤ 1000) (k : Nat) (hk : 8000 ≤ k) : dataflowref29_Union.f k f g = some (sdP ((f ++ g).map toP)) := by
  have := refUnion_l0 f g hf hg f.length 0 k (by omega) (by omega) (by omega)
  rw [List.take_zero, List.map_nil, sdP_nil] at this
  exact this

theorem FlowCompose_pure (f g : List S44) : ∃ k, dataflowlaw29_FlowCompose.f k f g = some true := by
  refine ⟨400000, ?_⟩
  unfold dataflowlaw29_FlowCompose.f dataflowlaw29_few.f
  by_cases h1 : (f.length : Int) ≤ 60
  · rw [if_pos h1]
    simp only [Option.bind_some]
    by_cases h2 : (g.length : Int) ≤ 60
    · have e1 := meets_len f g
      have e2 : f.length * g.length ≤ 60 * 60 := Nat.mul_le_mul (by omega) (by omega)
      have e3 := sdP_len (meets f g)
      have e4 := sdP_len ((f ++ g).map toP)
      rw [List.length_map, List.length_append] at e4
      rw [if_pos (decide_eq_true h2), show flow_Compose.f f g = some (sdP (meets f g)) by unfold flow_Compose.f; rw [if_pos (by omega)]; rfl, refCompose_eq f g (by omega) (by omega) _ (by omega)]
      simp only [Option.bind_some]
      rw [refSame_eq _ _ (by omega) _ (by omega), decide_eq_true rfl]
      simp only [Option.bind_some]
      rw [if_pos trivial, show flow_Union.f f g = some (sdP ((f ++ g).map toP)) by unfold flow_Union.f; rw [if_pos (by omega)]; rfl, refUnion_eq f g (by omega) (by omega) _ (by omega)]
      simp only [Option.bind_some]
      rw [refSame_eq _ _ (by omega) _ (by omega), decide_eq_true rfl]
      simp only [Option.bind_some]
      rw [if_pos trivial, knows_eq _ (by omega)]
      rfl
    · rw [decide_eq_false h2]; rfl
  · rw [if_neg h1]; rfl
theorem FlowCompose_row (f g : List S44) (_ : f.length * 16 ≤ 140737488351232) (_ : g.length * 16 ≤ 140737488351232) : ∃ k, dataflowlaw29_FlowCompose.f k f g = some true := FlowCompose_pure f g
end Go.Proofs.Ytdbnlmhffbopoaa.Xq
