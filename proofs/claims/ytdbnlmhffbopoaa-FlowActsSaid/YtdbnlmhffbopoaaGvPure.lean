/- Over lists and numbers alone: Check and Same of the program and of the reference agree, for any lists of pairs. -/
import Derived.Test.YtdbnlmhffbopoaaGvSpec
import Derived.Test.YtdbnlmhffbopoaaXq7
import Derived.Test.YtdbnlmhffbopoaaXq6
set_option linter.unusedVariables false
set_option linter.unusedSimpArgs false
namespace Go.Proofs.Ytdbnlmhffbopoaa.Xq
open Go.RowKit Go.Proofs.YtdbnlmhffbopoaaW.PrintWords Go.Proofs.YtdbnlmhffbopoaaW.PrintLast Go.Proofs.Ytdbnlmhffbopoaa.Gv

theorem wrap_s {i : Int} (h0 : 0 ≤ i) (h1 : i ≤ 4611686018427387904) : wrap64 (i + 1) = i + 1 := by unfold wrap64; omega
theorem wrap_p {i : Int} (h0 : 1 ≤ i) (h1 : i ≤ 4611686018427387904) : wrap64 (i - 1) = i - 1 := by unfold wrap64; omega
theorem rdP (l : List S44) (i : Nat) (h : i < l.length) : rd_T44 l (i : Int) = l[i] := by simp [rd_T44, h]
theorem rdI (l : List Int) (i : Nat) (h : i < l.length) : rd l (i : Int) = l[i] := by simp [rd, h]
theorem S44_ext {x y : S44} (h0 : x.f0 = y.f0) (h1 : x.f1 = y.f1) : x = y := by cases x; cases y; simp_all

instance : DecidableEq S44 := fun x y => if h : x.f0 = y.f0 ∧ x.f1 = y.f1 then isTrue (S44_ext h.1 h.2) else isFalse (fun e => h (by subst e; exact ⟨rfl, rfl⟩))
/-! ### Same -/
theorem ne_test (x y : S44) : ((!(x.f0 == y.f0) || !(x.f1 == y.f1)) = true) ↔ x ≠ y := by
  constructor
  · intro h e; subst e; simp at h
  · intro h
    by_cases h0 : x.f0 = y.f0
    · by_cases h1 : x.f1 = y.f1
      · exact absurd (S44_ext h0 h1) h
      · simp [h1]
    · simp [h0]

theorem drop_iff (a b : List S44) (i : Nat) (ha : i < a.length) (hb : i < b.length) : a.drop i = b.drop i ↔ a[i] = b[i] ∧ a.drop (i + 1) = b.drop (i + 1) := by
  rw [List.drop_eq_getElem_cons ha, List.drop_eq_getElem_cons hb, List.cons.injEq]
theorem refSame_l0 (a b : List S44) (hab : a.length = b.length) (hb : a.length ≤ 4611686018427387904) : ∀ (d i k : Nat), a.length - i = d → i ≤ a.length → d < k → dataflowref29_Same.l0 k a b (i : Int) = some (decide (a.drop i = b.drop i)) := by
  intro d
  induction d with
  | zero =>
    intro i k hd hi hk
    obtain ⟨k, rfl⟩ : ∃ m, k = m + 1 := ⟨k - 1, by omega⟩
    simp only [dataflowref29_Same.l0]
    rw [if_neg (by omega), List.drop_eq_nil_of_le (by omega), List.drop_eq_nil_of_le (by omega)]
    simp
  | succ d ih =>
    intro i k hd hi hk
    obtain ⟨k, rfl⟩ : ∃ m, k = m + 1 := ⟨k - 1, by omega⟩
    have hlt : i < a.length := by omega
    have hlb : i < b.length := by omega
    simp only [dataflowref29_Same.l0]
    rw [if_pos (by omega), if_pos (by omega), if_pos (by omega), rdP a i hlt, rdP b i hlb]
    have E := drop_iff a b i hlt hlb
    by_cases e : a[i] = b[i]
    · rw [if_neg (by rw [ne_test]; simpa using e), wrap_s (by omega) (by omega), show ((i : Int) + 1) = ((i + 1 : Nat) : Int) by omega, ih (i + 1) k (by omega) (by omega) (by omega)]
      simp [E, e]
    · rw [if_pos (by rw [ne_test]; exact e)]
      simp [E, e]
theorem refSame_eq (a b : List S44) (hb : a.length ≤ 4611686018427387904) (k : Nat) (hk : a.length < k) : dataflowref29_Same.f k a b = some (decide (a = b)) := by
  unfold dataflowref29_Same.f
  by_cases h : a.length = b.length
  · rw [if_pos (by omega)]
    have := refSame_l0 a b h hb a.length 0 k (by omega) (by omega) hk
    simpa using this
  · rw [if_neg (by omega)]
    have : a ≠ b := fun e => h (by rw [e])
    simp [this]

theorem pairEq_l0 (a b : List S44) (hab : a.length = b.length) (hb : a.length ≤ 4611686018427387904) : ∀ (d i k : Nat), a.length - i = d → i ≤ a.length → d < k → api_Pair.l0 k a b (a.length : Int) (i : Int) = some (decide (a.drop i = b.drop i)) := by
  intro d
  induction d with
  | zero =>
    intro i k hd hi hk
    obtain ⟨k, rfl⟩ : ∃ m, k = m + 1 := ⟨k - 1, by omega⟩
    simp only [api_Pair.l0]
    rw [if_neg (by omega), List.drop_eq_nil_of_le (by omega), List.drop_eq_nil_of_le (by omega)]
    simp
  | succ d ih =>
    intro i k hd hi hk
    obtain ⟨k, rfl⟩ : ∃ m, k = m + 1 := ⟨k - 1, by omega⟩
    have hlt : i < a.length := by omega
    have hlb : i < b.length := by omega
    simp only [api_Pair.l0]
    rw [if_pos (by omega), if_pos (by omega), if_pos (by omega), if_pos (by omega), rdP a i hlt, rdP b i hlb]
    have E := drop_iff a b i hlt hlb
    by_cases e : a[i] = b[i]
    · rw [if_neg (by rw [ne_test]; simpa using e), wrap_s (by omega) (by omega), show ((i : Int) + 1) = ((i + 1 : Nat) : Int) by omega, ih (i + 1) k (by omega) (by omega) (by omega)]
      simp [E, e]
    · rw [if_pos (by rw [ne_test]; exact e)]
      simp [E, e]
theorem same_eq (a b : List S44) (hb : a.length ≤ 4611686018427387904) (k : Nat) (hk : a.length < k) : flow_Same.f k a b = some (decide (a = b)) := by
  unfold flow_Same.f api_Pair.f
  by_cases h : a.length = b.length
  · rw [if_pos (by omega)]
    have := pairEq_l0 a b h hb a.length 0 k (by omega) (by omega) hk
    rw [show ((0 : Nat) : Int) = 0 from rfl] at this
    rw [this]
    simp
  · rw [if_neg (by omega)]
    have : a ≠ b := fun e => h (by rw [e])
    simp [this]

/-! ### Check -/
theorem or2 (a b : Int) (k : Nat) (hk : 3 ≤ k) : cmp_Or_int.f k [a, b] = some (orI a b) := by
  obtain ⟨k, rfl⟩ : ∃ m, k = m + 3 := ⟨k - 3, by omega⟩
  unfold cmp_Or_int.f orI
  simp only [cmp_Or_int.l0]
  by_cases ha : a = 0
  · by_cases hb : b = 0
    · simp [rd, wrap64, ha, hb]
    · simp [rd, wrap64, ha, hb]
  · simp [rd, ha]
theorem cmp_eq (a b : Int) : cmp_Compare_int.f a b = some (cmpI a b) := by
  unfold cmp_Compare_int.f cmp_isNaN_int.f cmpI
  by_cases h1 : a < b
  · simp [h1]
  · by_cases h2 : b < a
    · simp [h1, h2]
    · simp [h1, h2]
theorem compare_eq (x y : S44) (k : Nat) (hk : 3 ≤ k) : flow_compare.f k x.f0 x.f1 y.f0 y.f1 = some (cmpP (toP x) (toP y)) := by
  unfold flow_compare.f
  simp only [cmp_eq, Option.bind_some, or2 _ _ k hk]
  rfl
theorem cmpP_neg (x y : Int × Int) : cmpP x y ≥ 0 ↔ ¬ LtP x y := by
  have h := lt_cmpP x y
  unfold Go.Proofs.ltOf at h
  rw [← ltP_iff, ← h]
  simp

/-- both facts in range -/
def Fits (x : S44) (n : Int) : Prop := 0 ≤ x.f0 ∧ x.f0 < n ∧ 0 ≤ x.f1 ∧ x.f1 < n
instance (x : S44) (n : Int) : Decidable (Fits x n) := by unfold Fits; infer_instance
instance (x y : Int × Int) : Decidable (LtP x y) := by unfold LtP; infer_instance
def endF (l : List S44) : Int := if l.head? = some ⟨0, 0⟩ then 0 else 1
/-- what Check says from index i on, d pairs being left -/
def cf (l : List S44) (n : Int) : Nat → Nat → Int
  | 0, _ => endF l
  | d + 1, i => if ¬ Fits (l.getD i z44) n then 4 else if 0 < i ∧ ¬ LtP (toP (l.getD (i - 1) z44)) (toP (l.getD i z44)) then 13 else cf l n d (i + 1)
def chkF (l : List S44) (n : Int) : Int := if n < 1 ∨ n > 1024 then 4 else if l.length > 8192 then 3 else cf l n l.length 0

theorem rdD (l : List S44) (i : Nat) : rd_T44 l (i : Int) = l.getD i z44 := by simp [rd_T44]
theorem fact_eq (a n : Int) : flow_fact.f a n = some (decide (0 ≤ a ∧ a < n)) := by
  unfold flow_fact.f
  by_cases h : a ≥ 0
  · have : 0 ≤ a := h
    simp [h, this]
  · have : ¬ 0 ≤ a := h
    simp [h, this]
theorem fits_eq (x : S44) (n : Int) : dataflowref29_fits.f x.f0 x.f1 n = some (decide (Fits x n)) := by
  unfold dataflowref29_fits.f Fits
  by_cases h0 : x.f0 ≥ 0
  · by_cases h1 : x.f0 < n
    · by_cases h2 : x.f1 ≥ 0
      · have a0 : 0 ≤ x.f0 := h0
        have a2 : 0 ≤ x.f1 := h2
        simp [h0, h1, h2, a0, a2]
      · have a2 : ¬ 0 ≤ x.f1 := h2
        simp [h0, h1, h2, a2]
    · simp [h0, h1]
  · have a0 : ¬ 0 ≤ x.f0 := h0
    simp [h0, a0]
theorem before_eq (x y : S44) : dataflowref29_before.f x.f0 x.f1 y.f0 y.f1 = some (decide (LtP (toP x) (toP y))) := by
  unfold dataflowref29_before.f LtP toP
  by_cases h0 : x.f0 < y.f0
  · simp [h0]
  · by_cases h1 : x.f0 = y.f0
    · simp [h1]
    · simp [h0, h1]

theorem check_end (l : List S44) (k : Nat) (n : Int) (i : Nat) (hi : l.length ≤ i) : flow_Check.l0 (k + 1) l n l (l.length : Int) (i : Int) = some (endF l) := by
  simp only [flow_Check.l0]
  rw [if_neg (by omega)]
  cases l with
  | nil => simp [endF]
  | cons x r =>
    rw [if_neg (by simp; omega), if_pos (by simp)]
    have e : rd_T44 (x :: r) 0 = x := rfl
    rw [e]
    by_cases h : x = ⟨0, 0⟩
    · subst h; simp [endF]
    · have h' := (ne_test x ⟨0, 0⟩).2 h
      rw [if_pos (by simpa using h')]
      simp [endF, h]

theorem check_l0 (l : List S44) (n : Int) (hl : l.length ≤ 8192) : ∀ (d i k : Nat), l.length - i = d → i ≤ l.length → 2 * d + 4 ≤ k → flow_Check.l0 k l n l (l.length : Int) (i : Int) = some (cf l n d i) := by
  intro d
  induction d with
  | zero =>
    intro i k hd hi hk
    obtain ⟨k, rfl⟩ : ∃ m, k = m + 1 := ⟨k - 1, by omega⟩
    exact check_end l k n i (by omega)
  | succ d ih =>
    intro i k hd hi hk
    obtain ⟨k, rfl⟩ : ∃ m, k = m + 2 := ⟨k - 2, by omega⟩
    have hn := ih (i + 1) k (by omega) (by omega) (by omega)
    rw [show ((i + 1 : Nat) : Int) = (i : Int) + 1 by omega] at hn
    simp only [flow_Check.l0, cf, rdD]
    rw [if_pos (by omega), if_pos (by omega), if_pos (by omega), fact_eq, fact_eq]
    simp only [Option.bind_some]
    generalize l.getD i z44 = x
    by_cases h0 : 0 ≤ x.f0 ∧ x.f0 < n
    · rw [if_pos (by simpa using h0)]
      by_cases h1 : 0 ≤ x.f1 ∧ x.f1 < n
      · have hf : Fits x n := ⟨h0.1, h0.2, h1.1, h1.2⟩
        simp only [flow_Check.j1]
        rw [if_neg (by simpa using h1), if_neg (show ¬ ¬ Fits x n from not_not_intro hf)]
        by_cases hp : 0 < i
        · obtain ⟨j, rfl⟩ : ∃ j, i = j + 1 := ⟨i - 1, by omega⟩
          rw [if_pos (by omega), show wrap64 (((j + 1 : Nat) : Int) - 1) = (j : Int) by (rw [wrap_p (by omega) (by omega)]; omega), if_pos (by omega), if_pos (by omega), rdD, compare_eq _ _ k (by omega)]
          simp only [Option.bind_some, Nat.add_sub_cancel]
          generalize l.getD j z44 = y
          by_cases h3 : LtP (toP y) (toP x)
          · rw [if_neg (by rw [cmpP_neg]; simpa using h3), if_neg (show ¬ (0 < j + 1 ∧ ¬ LtP (toP y) (toP x)) from fun h => h.2 h3), wrap_s (by omega) (by omega)]
            exact hn
          · rw [if_pos ((cmpP_neg _ _).2 h3), if_pos (show 0 < j + 1 ∧ ¬ LtP (toP y) (toP x) from ⟨by omega, h3⟩)]
        · rw [if_neg (by omega), if_neg (fun h => hp h.1), wrap_s (by omega) (by omega)]
          exact hn
      · have hf : ¬ Fits x n := fun h => h1 ⟨h.2.2.1, h.2.2.2⟩
        simp only [flow_Check.j1]
        rw [if_pos (by simp; omega), if_pos (show ¬ Fits x n from hf)]
    · have hf : ¬ Fits x n := fun h => h0 ⟨h.1, h.2.1⟩
      rw [if_neg (by simpa using h0), if_pos (show ¬ Fits x n from hf)]
      simp only [flow_Check.j1]
      rw [if_pos trivial]

theorem check_eq (l : List S44) (n : Int) (k : Nat) (hk : 2 * l.length + 5 ≤ k) : flow_Check.f k l n = some (chkF l n) := by
  unfold flow_Check.f chkF flow_facts.f
  by_cases h1 : n < 1 ∨ n > 1024
  · rw [if_pos h1]
    by_cases h2 : n ≥ 1
    · have : ¬ n ≤ 1024 := by omega
      simp [h2, this]
    · simp [h2]
  · have h2 : n ≥ 1 := by omega
    have h3 : n ≤ 1024 := by omega
    rw [if_neg h1, if_pos h2]
    simp only [h3, decide_true, Option.bind_some, if_true]
    by_cases h4 : l.length > 8192
    · rw [if_pos (by omega), if_pos h4]
    · rw [if_neg (by omega), if_neg h4]
      exact check_l0 l n (by omega) l.length 0 k (by omega) (by omega) (by omega)

/-- what holds of the pairs before i -/
structure Okb (l : List S44) (n : Int) (i : Nat) : Prop where
  fits : ∀ j, j < i → j < l.length → Fits (l.getD j z44) n
  asc : ∀ j, 0 < j → j < i → j < l.length → LtP (toP (l.getD (j - 1) z44)) (toP (l.getD j z44))
theorem Okb.first {l : List S44} {n : Int} {i : Nat} (h : Okb l n i) : ∀ j, 0 < j → j < i → j < l.length → LtP (toP (l.getD 0 z44)) (toP (l.getD j z44)) := by
  intro j
  induction j with
  | zero => intro h0; omega
  | succ j ih =>
    intro _ hj hl
    have h1 := h.asc (j + 1) (by omega) hj hl
    rw [Nat.add_sub_cancel] at h1
    by_cases e : j = 0
    · subst e; exact h1
    · exact (ih (by omega) (by omega) (by omega)).trans h1
/-- among valid pairs the zero pair is the first or none -/
theorem Okb.zero {l : List S44} {n : Int} {i : Nat} (h : Okb l n i) (j : Nat) (h0 : 0 < j) (hj : j < i) (hl : j < l.length) : l.getD j z44 ≠ ⟨0, 0⟩ := by
  intro e
  have h1 := h.first j h0 hj hl
  have h2 := h.fits 0 (by omega) (by omega)
  rw [e] at h1
  unfold LtP toP at h1
  dsimp only at h1
  unfold Fits at h2
  omega
def zb (l : List S44) (i : Nat) : Bool := decide (0 < i ∧ l.head? = some ⟨0, 0⟩)

theorem refCheck_l0 (l : List S44) (n : Int) (hl : l.length ≤ 8192) : ∀ (d i k : Nat), l.length - i = d → i ≤ l.length → d < k → Okb l n i → dataflowref29_Check.l0 k l n (zb l i) (i : Int) = some (cf l n d i) := by
  intro d
  induction d with
  | zero =>
    intro i k hd hi hk ho
    obtain ⟨k, rfl⟩ : ∃ m, k = m + 1 := ⟨k - 1, by omega⟩
    simp only [dataflowref29_Check.l0, cf]
    rw [if_neg (by omega)]
    unfold zb endF
    cases l with
    | nil => simp
    | cons x r =>
      have : 0 < i := by simp at hi hd; omega
      by_cases e : x = ⟨0, 0⟩ <;> simp [this, e]
  | succ d ih =>
    intro i k hd hi hk ho
    obtain ⟨k, rfl⟩ : ∃ m, k = m + 1 := ⟨k - 1, by omega⟩
    have hlt : i < l.length := by omega
    have hn : Okb l n (i + 1) → dataflowref29_Check.l0 k l n (zb l (i + 1)) ((i : Int) + 1) = some (cf l n d (i + 1)) := by
      intro h
      have := ih (i + 1) k (by omega) (by omega) (by omega) h
      rwa [show ((i + 1 : Nat) : Int) = (i : Int) + 1 by omega] at this
    have step : Okb l n (i + 1) → (if zb l i = true then dataflowref29_Check.l0 k l n true (wrap64 ((i : Int) + 1)) else if (l.getD i z44).f0 = 0 then dataflowref29_Check.l0 k l n ((l.getD i z44).f1 == 0) (wrap64 ((i : Int) + 1)) else dataflowref29_Check.l0 k l n false (wrap64 ((i : Int) + 1))) = some (cf l n d (i + 1)) := by
      intro h
      rw [wrap_s (by omega) (by omega), ← hn h]
      by_cases hz : zb l i = true
      · rw [if_pos hz]
        have : zb l (i + 1) = true := by simp [zb] at hz ⊢; exact hz.2
        rw [this]
      · rw [if_neg hz]
        by_cases hi0 : i = 0
        · subst hi0
          cases l with
          | nil => simp at hlt
          | cons x r =>
            have e : (x :: r).getD 0 z44 = x := rfl
            rw [e]
            by_cases h0 : x.f0 = 0
            · rw [if_pos h0]
              have : zb (x :: r) (0 + 1) = (x.f1 == 0) := by
                unfold zb
                rw [Bool.eq_iff_iff]
                simp
                exact ⟨fun e => by rw [e], fun e => S44_ext h0 e⟩
              rw [this]
            · rw [if_neg h0]
              have : zb (x :: r) (0 + 1) = false := by
                unfold zb
                simp
                intro e; exact h0 (by rw [e])
              rw [this]
        · have hh : ¬ l.head? = some ⟨0, 0⟩ := by
            intro e; apply hz; simp [zb, e]; omega
          have : zb l (i + 1) = false := by simp [zb, hh]
          rw [this]
          have hnz := h.zero i (by omega) (by omega) hlt
          by_cases h0 : (l.getD i z44).f0 = 0
          · rw [if_pos h0]
            have : ((l.getD i z44).f1 == 0) = false := by
              rw [beq_eq_false_iff_ne]
              intro e; exact hnz (S44_ext h0 e)
            rw [this]
          · rw [if_neg h0]
    have okS : Fits (l.getD i z44) n → (0 < i → LtP (toP (l.getD (i - 1) z44)) (toP (l.getD i z44))) → Okb l n (i + 1) := by
      intro hf hp
      refine ⟨fun j hj hjl => ?_, fun j h0 hj hjl => ?_⟩
      · by_cases e : j = i
        · subst e; exact hf
        · exact ho.fits j (by omega) hjl
      · by_cases e : j = i
        · subst e; exact hp h0
        · exact ho.asc j h0 (by omega) hjl
    simp only [dataflowref29_Check.l0, cf, rdD]
    rw [if_pos (by omega), if_pos (by omega), fits_eq]
    simp only [Option.bind_some]
    by_cases hf : Fits (l.getD i z44) n
    · rw [if_pos (by simpa using hf), if_neg (show ¬ ¬ Fits (l.getD i z44) n from not_not_intro hf)]
      by_cases hp : 0 < i
      · obtain ⟨j, rfl⟩ : ∃ j, i = j + 1 := ⟨i - 1, by omega⟩
        rw [if_pos (show ((j + 1 : Nat) : Int) > 0 by omega), show wrap64 (((j + 1 : Nat) : Int) - 1) = (j : Int) by (rw [wrap_p (by omega) (by omega)]; omega), if_pos (show 0 ≤ (j : Int) by omega), if_pos (show (j : Int) < l.length by omega), rdD, before_eq]
        simp only [Option.bind_some, Nat.add_sub_cancel]
        by_cases h3 : LtP (toP (l.getD j z44)) (toP (l.getD (j + 1) z44))
        · rw [if_pos (by simpa using h3), if_neg (show ¬ (0 < j + 1 ∧ ¬ LtP (toP (l.getD j z44)) (toP (l.getD (j + 1) z44))) from fun h => h.2 h3)]
          exact step (okS hf (fun _ => h3))
        · rw [if_neg (by simpa using h3), if_pos (show 0 < j + 1 ∧ ¬ LtP (toP (l.getD j z44)) (toP (l.getD (j + 1) z44)) from ⟨by omega, h3⟩)]
      · rw [if_neg (show ¬ (i : Int) > 0 by omega), if_neg (show ¬ (0 < i ∧ ¬ LtP (toP (l.getD (i - 1) z44)) (toP (l.getD i z44))) from fun h => hp h.1)]
        exact step (okS hf (fun h => absurd h hp))
    · rw [if_neg (by simpa using hf), if_pos (show ¬ Fits (l.getD i z44) n from hf)]

theorem refCheck_eq (l : List S44) (n : Int) (k : Nat) (hk : l.length + 5 ≤ k) : dataflowref29_Check.f k l n = some (chkF l n) := by
  obtain ⟨k, rfl⟩ : ∃ m, k = m + 1 := ⟨k - 1, by omega⟩
  unfold dataflowref29_Check.f chkF
  by_cases h1 : n < 1
  · rw [if_pos h1, if_pos (.inl h1)]
    simp only [dataflowref29_Check.j0]
    rw [if_pos trivial]
  · rw [if_neg h1]
    by_cases h2 : n > 1024
    · rw [if_pos (.inr h2)]
      simp only [dataflowref29_Check.j0]
      rw [if_pos (by simpa using h2)]
    · rw [if_neg (by omega)]
      simp only [dataflowref29_Check.j0]
      rw [if_neg (by simpa using h2)]
      by_cases h3 : l.length > 8192
      · rw [if_pos (by omega), if_pos h3]
      · rw [if_neg (by omega), if_neg h3]
        have := refCheck_l0 l n (by omega) l.length 0 k (by omega) (by omega) (by omega) ⟨by omega, by omega⟩
        simpa [zb] using this

/-! ### the examples of the chapter -/
theorem make_example : flow_Make.f 3 [1] [1, 2] = some ([⟨0, 0⟩, ⟨0, 1⟩], 0) := by
  have h : sortDedup ((0, 0) :: ([1].map fun d => ((0 : Int), d)) ++ liveF 3 [1, 2]) = [(0, 0), (0, 1)] := by
    refine sortDedup_eq ?_ ?_
    · simp [LtP]
    · intro x
      have : liveF 3 [1, 2] = [] := by decide
      rw [this]
      simp
  unfold flow_Make.f
  rw [if_neg (by omega), if_neg (by decide), if_pos (by decide), h]
  rfl
theorem knows_eq (k : Nat) (hk : 5 ≤ k) : dataflowlaw29_knows.f k = some true := by
  unfold dataflowlaw29_knows.f
  rw [make_example]
  simp only [Option.bind_some]
  rw [check_eq [] 1 k (by simpa using hk)]
  decide

/-- the law of Check and Same -/
theorem FlowCheck_pure (f g : List S44) (n : Int) (hf : f.length ≤ 140737488351232) (hg : g.length ≤ 140737488351232) : ∃ k, dataflowlaw29_FlowCheck.f k f g n = some true := by
  refine ⟨2 * f.length + 10, ?_⟩
  unfold dataflowlaw29_FlowCheck.f
  rw [check_eq f n _ (by omega), refCheck_eq f n _ (by omega), same_eq f g (by omega) _ (by omega), refSame_eq f g (by omega) _ (by omega), same_eq f f (by omega) _ (by omega), knows_eq _ (by omega)]
  simp
end Go.Proofs.Ytdbnlmhffbopoaa.Xq
