/- Over lists and numbers alone: Make and Identity of the program and of the reference agree. -/
import Derived.Test.YtdbnlmhffbopoaaGvPure
set_option linter.unusedVariables false
set_option linter.unusedSimpArgs false
namespace Go.Proofs.Ytdbnlmhffbopoaa.Xq
open Go.RowKit Go.Proofs.YtdbnlmhffbopoaaW.PrintWords Go.Proofs.YtdbnlmhffbopoaaW.PrintLast Go.Proofs.Ytdbnlmhffbopoaa.Gv

theorem has_l0 (l : List Int) (x : Int) (hb : l.length ≤ 4611686018427387904) : ∀ (d i k : Nat), l.length - i = d → i ≤ l.length → d < k → dataflowref29_Has.l0 k l x (i : Int) = some (decide (x ∈ l.drop i)) := by
  intro d
  induction d with
  | zero =>
    intro i k hd hi hk
    obtain ⟨k, rfl⟩ : ∃ m, k = m + 1 := ⟨k - 1, by omega⟩
    simp only [dataflowref29_Has.l0]
    rw [if_neg (by omega), List.drop_eq_nil_of_le (by omega)]
    simp
  | succ d ih =>
    intro i k hd hi hk
    obtain ⟨k, rfl⟩ : ∃ m, k = m + 1 := ⟨k - 1, by omega⟩
    have hlt : i < l.length := by omega
    have E : x ∈ l.drop i ↔ x = l[i] ∨ x ∈ l.drop (i + 1) := by rw [List.drop_eq_getElem_cons hlt, List.mem_cons]
    simp only [dataflowref29_Has.l0]
    rw [if_pos (by omega), if_pos (by omega), rdI l i hlt]
    by_cases e : l[i] = x
    · rw [if_pos e]; simp [E, e]
    · rw [if_neg e, wrap_s (by omega) (by omega), show ((i : Int) + 1) = ((i + 1 : Nat) : Int) by omega, ih (i + 1) k (by omega) (by omega) (by omega)]
      have : ¬ x = l[i] := fun h => e h.symm
      simp [E, this]
theorem has_eq (l : List Int) (x : Int) (hb : l.length ≤ 4611686018427387904) (k : Nat) (hk : l.length < k) : dataflowref29_Has.f k l x = some (decide (x ∈ l)) := by
  have := has_l0 l x hb l.length 0 k (by omega) (by omega) hk
  simpa [dataflowref29_Has.f] using this

theorem proper_l0 (l : List Int) (n : Int) (hb : l.length ≤ 4611686018427387904) : ∀ (d i k : Nat), l.length - i = d → i ≤ l.length → d < k → dataflowref29_proper.l0 k l n (i : Int) = some (!badF n (l.drop i)) := by
  intro d
  induction d with
  | zero =>
    intro i k hd hi hk
    obtain ⟨k, rfl⟩ : ∃ m, k = m + 1 := ⟨k - 1, by omega⟩
    simp only [dataflowref29_proper.l0]
    rw [if_neg (by omega), List.drop_eq_nil_of_le (by omega)]
    simp [badF]
  | succ d ih =>
    intro i k hd hi hk
    obtain ⟨k, rfl⟩ : ∃ m, k = m + 1 := ⟨k - 1, by omega⟩
    have hlt : i < l.length := by omega
    have E : badF n (l.drop i) = ((decide (l[i] < 1) || decide (l[i] ≥ n)) || badF n (l.drop (i + 1))) := by rw [List.drop_eq_getElem_cons hlt]; rfl
    simp only [dataflowref29_proper.l0]
    rw [if_pos (by omega), if_pos (by omega), rdI l i hlt, E]
    by_cases e : l[i] < 1
    · rw [if_pos e]; simp [e]
    · rw [if_neg e]
      by_cases e2 : l[i] ≥ n
      · rw [if_pos e2]; simp [e2]
      · rw [if_neg e2, wrap_s (by omega) (by omega), show ((i : Int) + 1) = ((i + 1 : Nat) : Int) by omega, ih (i + 1) k (by omega) (by omega) (by omega)]
        simp [e, e2]
theorem proper_eq (l : List Int) (n : Int) (hb : l.length ≤ 4611686018427387904) (k : Nat) (hk : l.length < k) : dataflowref29_proper.f k l n = some (!badF n l) := by
  have := proper_l0 l n hb l.length 0 k (by omega) (by omega) hk
  simpa [dataflowref29_proper.f] using this

/-- of m numbers from d on those that p takes, as pairs -/
def upto (p : Int → Bool) (f : Int → S44) : Nat → Nat → List S44
  | _, 0 => []
  | d, m + 1 => (if p d then [f d] else []) ++ upto p f (d + 1) m
theorem upto_len (p : Int → Bool) (f : Int → S44) : ∀ m d, (upto p f d m).length ≤ m
  | 0, _ => by simp [upto]
  | m + 1, d => by
    have := upto_len p f m (d + 1)
    simp only [upto, List.length_append]
    split <;> simp <;> omega

theorem make_l1 (n : Nat) (kill : List Int) (hb : kill.length ≤ 4611686018427387904) (hn : n ≤ 1024) : ∀ (m d k : Nat) (acc : List S44), d + m = n → acc.length + m ≤ 100000 → m + kill.length + 1 < k → dataflowref29_Make.l1 k (n : Int) kill acc (d : Int) = some (acc ++ upto (fun x => decide (x ∉ kill)) (fun x => ⟨x, x⟩) d m, 0) := by
  intro m
  induction m with
  | zero =>
    intro d k acc hd ha hk
    obtain ⟨k, rfl⟩ : ∃ m, k = m + 1 := ⟨k - 1, by omega⟩
    simp only [dataflowref29_Make.l1]
    rw [if_neg (by omega)]
    simp [upto]
  | succ m ih =>
    intro d k acc hd ha hk
    obtain ⟨k, rfl⟩ : ∃ m, k = m + 1 := ⟨k - 1, by omega⟩
    simp only [dataflowref29_Make.l1]
    rw [if_pos (by omega), has_eq kill _ hb k (by omega)]
    simp only [Option.bind_some, upto]
    by_cases h : (d : Int) ∈ kill
    · rw [if_pos (by simpa using h), wrap_s (by omega) (by omega), show ((d : Int) + 1) = ((d + 1 : Nat) : Int) by omega, ih (d + 1) k acc (by omega) (by omega) (by omega)]
      simp [h]
    · rw [if_neg (by simpa using h), if_pos (by omega), wrap_s (by omega) (by omega), show ((d : Int) + 1) = ((d + 1 : Nat) : Int) by omega, ih (d + 1) k _ (by omega) (by simp; omega) (by omega)]
      simp [h]
theorem make_l0 (n : Nat) (gen kill : List Int) (hg : gen.length ≤ 4611686018427387904) (hb : kill.length ≤ 4611686018427387904) (hn : n ≤ 1024) (hn1 : 1 ≤ n) : ∀ (m d k : Nat) (acc : List S44), d + m = n → acc.length + m ≤ 50000 → m + n + gen.length + kill.length + 2 < k →
    dataflowref29_Make.l0 k (n : Int) gen kill acc (d : Int) = some (acc ++ upto (fun x => decide (x ∈ gen)) (fun x => ⟨0, x⟩) d m ++ upto (fun x => decide (x ∉ kill)) (fun x => ⟨x, x⟩) 1 (n - 1), 0) := by
  intro m
  induction m with
  | zero =>
    intro d k acc hd ha hk
    obtain ⟨k, rfl⟩ : ∃ m, k = m + 1 := ⟨k - 1, by omega⟩
    simp only [dataflowref29_Make.l0]
    rw [if_neg (by omega), show (1 : Int) = ((1 : Nat) : Int) from rfl, make_l1 n kill hb hn (n - 1) 1 k acc (by omega) (by omega) (by omega)]
    simp [upto]
  | succ m ih =>
    intro d k acc hd ha hk
    obtain ⟨k, rfl⟩ : ∃ m, k = m + 1 := ⟨k - 1, by omega⟩
    simp only [dataflowref29_Make.l0]
    rw [if_pos (by omega), has_eq gen _ hg k (by omega)]
    simp only [Option.bind_some, upto]
    by_cases h : (d : Int) ∈ gen
    · rw [if_pos (by simpa using h), if_pos (by omega), wrap_s (by omega) (by omega), show ((d : Int) + 1) = ((d + 1 : Nat) : Int) by omega, ih (d + 1) k _ (by omega) (by simp; omega) (by omega)]
      simp [h]
    · rw [if_neg (by simpa using h), wrap_s (by omega) (by omega), show ((d : Int) + 1) = ((d + 1 : Nat) : Int) by omega, ih (d + 1) k acc (by omega) (by omega) (by omega)]
      simp [h]

theorem mem_upto (p : Int → Bool) (f : Int → S44) (y : S44) : ∀ m d, y ∈ upto p f d m ↔ ∃ i : Nat, d ≤ i ∧ i < d + m ∧ p i = true ∧ y = f i
  | 0, d => by simp [upto]; omega
  | m + 1, d => by
    simp only [upto, List.mem_append, mem_upto p f y m (d + 1)]
    constructor
    · rintro (h | ⟨i, h1, h2, h3⟩)
      · by_cases hp : p d = true
        · rw [if_pos hp] at h; exact ⟨d, by omega, by omega, hp, by simpa using h⟩
        · rw [if_neg hp] at h; simp at h
      · exact ⟨i, by omega, by omega, h3⟩
    · rintro ⟨i, h1, h2, h3, h4⟩
      by_cases e : i = d
      · subst e; left; rw [if_pos h3]; simpa using h4
      · exact .inr ⟨i, by omega, by omega, h3, h4⟩
theorem asc_upto (p : Int → Bool) (f : Int → S44) (hf : ∀ a b : Int, a < b → LtP (toP (f a)) (toP (f b))) : ∀ m d, ((upto p f d m).map toP).Pairwise LtP
  | 0, d => by simp [upto]
  | m + 1, d => by
    simp only [upto, List.map_append]
    rw [List.pairwise_append]
    refine ⟨by split <;> simp, asc_upto p f hf m (d + 1), ?_⟩
    intro a ha b hb
    obtain ⟨y, hy, rfl⟩ := List.mem_map.1 hb
    obtain ⟨i, h1, h2, h3, rfl⟩ := (mem_upto p f y m (d + 1)).1 hy
    by_cases hp : p d = true
    · rw [if_pos hp] at ha
      simp at ha
      subst ha
      exact hf _ _ (by omega)
    · rw [if_neg hp] at ha; simp at ha

theorem mem_liveF (n : Nat) (kill : List Int) (x : Int × Int) : x ∈ liveF (n : Int) kill ↔ ∃ i : Nat, 1 ≤ i ∧ i < n ∧ (i : Int) ∉ kill ∧ x = ((i : Int), (i : Int)) := by
  unfold liveF
  rw [Int.toNat_natCast]
  constructor
  · intro h
    obtain ⟨d, hd, rfl⟩ := List.mem_map.1 h
    obtain ⟨h1, h2⟩ := List.mem_filter.1 hd
    obtain ⟨i, hi, rfl⟩ := List.mem_map.1 h1
    simp at h2 hi
    exact ⟨i, by omega, hi, h2.2, rfl⟩
  · rintro ⟨i, h1, h2, h3, rfl⟩
    refine List.mem_map.2 ⟨(i : Int), List.mem_filter.2 ⟨List.mem_map.2 ⟨i, List.mem_range.2 h2, rfl⟩, ?_⟩, rfl⟩
    simp [h3]; omega

theorem make_same (n : Nat) (gen kill : List Int) (hn1 : 1 ≤ n) (hg : badF n gen = false) :
    (sortDedup ((0, 0) :: (gen.map fun d => ((0 : Int), d)) ++ liveF n kill)).map ofP = [(⟨0, 0⟩ : S44)] ++ upto (fun x => decide (x ∈ gen)) (fun x => ⟨0, x⟩) 1 (n - 1) ++ upto (fun x => decide (x ∉ kill)) (fun x => ⟨x, x⟩) 1 (n - 1) := by
  have key : sortDedup ((0, 0) :: (gen.map fun d => ((0 : Int), d)) ++ liveF n kill) = ([(⟨0, 0⟩ : S44)] ++ upto (fun x => decide (x ∈ gen)) (fun x => ⟨0, x⟩) 1 (n - 1) ++ upto (fun x => decide (x ∉ kill)) (fun x => ⟨x, x⟩) 1 (n - 1)).map toP := by
    refine sortDedup_eq ?_ ?_
    · simp only [List.map_append]
      rw [List.pairwise_append, List.pairwise_append]
      refine ⟨⟨by simp, asc_upto _ _ (fun a b h => by simp [LtP, toP]; omega) _ _, ?_⟩, asc_upto _ _ (fun a b h => by simp [LtP, toP]; omega) _ _, ?_⟩
      · intro a ha b hb
        obtain ⟨y, hy, rfl⟩ := List.mem_map.1 hb
        obtain ⟨i, h1, h2, h3, rfl⟩ := (mem_upto _ _ y _ _).1 hy
        simp at ha; subst ha
        simp [LtP, toP]; omega
      · intro a ha b hb
        obtain ⟨y, hy, rfl⟩ := List.mem_map.1 hb
        obtain ⟨i, h1, h2, h3, rfl⟩ := (mem_upto _ _ y _ _).1 hy
        have : a.1 = 0 := by
          rcases List.mem_append.1 ha with h | h
          · simp at h; subst h; rfl
          · obtain ⟨z, hz, rfl⟩ := List.mem_map.1 h
            obtain ⟨i', _, _, _, rfl⟩ := (mem_upto _ _ z _ _).1 hz
            rfl
        simp [LtP, toP, this]; omega
    · intro x
      rw [List.mem_map]
      simp only [List.mem_append, List.mem_cons, mem_upto, mem_liveF, List.mem_map, List.not_mem_nil, or_false]
      constructor
      · rintro ⟨y, (rfl | ⟨i, h1, h2, h3, rfl⟩) | ⟨i, h1, h2, h3, rfl⟩, rfl⟩
        · left; left; rfl
        · left; right; exact ⟨(i : Int), by simpa using h3, rfl⟩
        · right; exact ⟨i, h1, by omega, by simpa using h3, rfl⟩
      · rintro ((rfl | ⟨d, hd, rfl⟩) | ⟨i, h1, h2, h3, rfl⟩)
        · exact ⟨⟨0, 0⟩, .inl (.inl rfl), rfl⟩
        · unfold badF at hg
          rw [List.any_eq_false] at hg
          have := hg d hd
          simp at this
          obtain ⟨i, rfl⟩ := Int.eq_ofNat_of_zero_le (show 0 ≤ d by omega)
          exact ⟨⟨0, (i : Int)⟩, .inl (.inr ⟨i, by omega, by omega, by simpa using hd, rfl⟩), rfl⟩
        · exact ⟨⟨(i : Int), (i : Int)⟩, .inr ⟨i, h1, by omega, by simpa using h3, rfl⟩, rfl⟩
  rw [key, List.map_map, show ofP ∘ toP = id from rfl, List.map_id]

theorem refMake_eq (a0 : Int) (gen kill : List Int) (hg : gen.length ≤ 400000) (hb : kill.length ≤ 400000) (k : Nat) (hk : 1000000 ≤ k) : ∃ r, flow_Make.f a0 gen kill = some r ∧ dataflowref29_Make.f k a0 gen kill = some r ∧ r.1.length ≤ 1000000 := by
  obtain ⟨k, rfl⟩ : ∃ m, k = m + 1 := ⟨k - 1, by omega⟩
  unfold flow_Make.f dataflowref29_Make.f
  by_cases h1 : a0 < 1
  · rw [if_pos (.inl h1), if_pos h1]
    exact ⟨_, rfl, by simp only [dataflowref29_Make.j0]; rw [if_pos trivial], by simp⟩
  · rw [if_neg h1]
    by_cases h2 : a0 > 1024
    · rw [if_pos (.inr h2), if_pos h2]
      exact ⟨_, rfl, by simp only [dataflowref29_Make.j0]; rw [if_pos trivial], by simp⟩
    · rw [if_neg (by omega), if_neg h2, proper_eq gen a0 (by omega) _ (by omega), proper_eq kill a0 (by omega) _ (by omega)]
      obtain ⟨n, rfl⟩ := Int.eq_ofNat_of_zero_le (show 0 ≤ a0 by omega)
      simp only [Option.bind_some]
      by_cases h3 : badF n gen = true
      · rw [if_pos (.inl h3)]
        exact ⟨_, rfl, by rw [if_neg (by simp [h3])]; simp only [dataflowref29_Make.j0]; rw [if_pos trivial], by simp⟩
      · have h3' : badF n gen = false := by simpa using h3
        by_cases h4 : badF n kill = true
        · rw [if_pos (.inr h4)]
          exact ⟨_, rfl, by rw [if_pos (by simp [h3'])]; simp only [dataflowref29_Make.j0]; rw [if_pos (by simp [h4])], by simp⟩
        · have h4' : badF n kill = false := by simpa using h4
          rw [if_neg (by simp [h3', h4']), if_pos (by omega), make_same n gen kill (by omega) h3']
          refine ⟨_, rfl, ?_, ?_⟩
          · rw [if_pos (by simp [h3'])]
            simp only [dataflowref29_Make.j0]
            rw [if_neg (by simp [h4']), show (1 : Int) = ((1 : Nat) : Int) from rfl, make_l0 n gen kill (by omega) (by omega) (by omega) (by omega) (n - 1) 1 k _ (by omega) (by simp; omega) (by omega)]
          · have a := upto_len (fun x => decide (x ∈ gen)) (fun x => (⟨0, x⟩ : S44)) (n - 1) 1
            have b := upto_len (fun x => decide (x ∉ kill)) (fun x => (⟨x, x⟩ : S44)) (n - 1) 1
            simp only [List.length_append, List.length_singleton]
            omega

theorem ident_l0 (n : Nat) (hn : n ≤ 1024) : ∀ (m d k : Nat) (acc : List S44), d + m = n → acc = (List.range d).map (fun i : Nat => (⟨i, i⟩ : S44)) → m < k → dataflowref29_Identity.l0 k (n : Int) acc (d : Int) = some ((List.range n).map (fun i : Nat => (⟨i, i⟩ : S44)), 0) := by
  intro m
  induction m with
  | zero =>
    intro d k acc hd ha hk
    obtain ⟨k, rfl⟩ : ∃ m, k = m + 1 := ⟨k - 1, by omega⟩
    simp only [dataflowref29_Identity.l0]
    obtain rfl : d = n := by omega
    rw [if_neg (by omega), ha]
  | succ m ih =>
    intro d k acc hd ha hk
    obtain ⟨k, rfl⟩ : ∃ m, k = m + 1 := ⟨k - 1, by omega⟩
    simp only [dataflowref29_Identity.l0]
    rw [if_pos (by omega), if_pos (by rw [ha]; simp; omega), wrap_s (by omega) (by omega), show ((d : Int) + 1) = ((d + 1 : Nat) : Int) by omega]
    exact ih (d + 1) k _ (by omega) (by rw [ha, List.range_succ]; simp) (by omega)
theorem ident_eq (a0 : Int) (k : Nat) (hk : 1000000 ≤ k) : ∃ r, flow_Identity.f a0 = some r ∧ dataflowref29_Identity.f k a0 = some r ∧ r.1.length ≤ 1024 := by
  obtain ⟨k, rfl⟩ : ∃ m, k = m + 1 := ⟨k - 1, by omega⟩
  unfold flow_Identity.f dataflowref29_Identity.f
  by_cases h1 : a0 < 1
  · rw [if_pos (.inl h1), if_pos h1]
    exact ⟨_, rfl, by simp only [dataflowref29_Identity.j0]; rw [if_pos trivial], by simp⟩
  · rw [if_neg h1]
    by_cases h2 : a0 > 1024
    · rw [if_pos (.inr h2)]
      exact ⟨_, rfl, by simp only [dataflowref29_Identity.j0]; rw [if_pos (by simpa using h2)], by simp⟩
    · rw [if_neg (by omega)]
      obtain ⟨n, rfl⟩ := Int.eq_ofNat_of_zero_le (show 0 ≤ a0 by omega)
      rw [Int.toNat_natCast]
      refine ⟨_, rfl, ?_, by simp; omega⟩
      simp only [dataflowref29_Identity.j0]
      rw [if_neg (by simpa using h2), show (0 : Int) = ((0 : Nat) : Int) from rfl]
      exact ident_l0 n (by omega) n 0 k [] (by omega) (by simp) (by omega)

theorem FlowMake_j0 (a0 : Int) (gen kill : List Int) (b : Bool) (h : b = false → gen.length ≤ 100 ∧ kill.length ≤ 100) : dataflowlaw29_FlowMake.j0 2000000 a0 gen kill b = some true := by
  rw [show (2000000 : Nat) = 1999999 + 1 from rfl]
  simp only [dataflowlaw29_FlowMake.j0]
  cases b with
  | true => rw [if_pos rfl]
  | false =>
    rw [if_neg (by simp)]
    obtain ⟨hg, hb⟩ := h rfl
    obtain ⟨r, h1, h2, h3⟩ := refMake_eq a0 gen kill (by omega) (by omega) 1999999 (by omega)
    obtain ⟨s, k1, k2, k3⟩ := ident_eq a0 1999999 (by omega)
    rw [h1, h2, k1, k2]
    simp only [Option.bind_some]
    rw [refSame_eq r.1 r.1 (by omega) _ (by omega), refSame_eq s.1 s.1 (by omega) _ (by omega), knows_eq _ (by omega)]
    simp
theorem FlowMake_pure (a0 : Int) (gen kill : List Int) : ∃ k, dataflowlaw29_FlowMake.f k a0 gen kill = some true := by
  refine ⟨2000000, ?_⟩
  unfold dataflowlaw29_FlowMake.f
  repeat' split
  all_goals (refine FlowMake_j0 _ _ _ _ ?_; first | (intro h; cases h; done) | (intro h; simp at h; omega))
end Go.Proofs.Ytdbnlmhffbopoaa.Xq
