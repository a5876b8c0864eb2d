/- Joined by a program out of this work's texts and the print's (what the law needs of them): GvP1, LawGraphMakes. -/
import Derived.Test.YtfgbkklhjocmjaaDoorKa4
import Derived.Test.YtfgbkklhjocmjaaDoorTie
import Derived.Test.YtfgbkklhjocmjaaDoorCards
import Derived.WalkKit
import Derived.ProofKit
import Derived.OpenShut
import Derived.ShutString
import Derived.ChangeOld
import Derived.Below
import Derived.SizedLaws
import Derived.SevenTiedAt
set_option linter.unusedVariables false
set_option linter.unusedSimpArgs false
namespace Go.Proofs.YtfgbkklhjocmjaaDoor.Xq
open Go.RowKit Go.Lib Go.Sort Go.Proofs.YtfgbkklhjocmjaaDoorW.PrintWords Go.Proofs.YtfgbkklhjocmjaaDoorW.PrintLast Go.Proofs.YtfgbkklhjocmjaaDoor.Gv
theorem wrap_s {i : Int} (h0 : 0 ≤ i) (h1 : i ≤ 4611686018427387904) : wrap64 (i + 1) = i + 1 := by unfold wrap64; omega
theorem S53_ext {x y : S53} (h0 : x.f0 = y.f0) (h1 : x.f1 = y.f1) : x = y := by cases x; cases y; simp_all
instance decS53 : DecidableEq S53 := fun x y => decidable_of_iff (x.f0 = y.f0 ∧ x.f1 = y.f1) ⟨fun h => S53_ext h.1 h.2, fun h => by subst h; exact ⟨rfl, rfl⟩⟩
theorem ltE_LtP {x y : S53} : ltE x y = true ↔ LtP (toP x) (toP y) := by rw [ltE_iff]; rfl
theorem less_eq (x y : S53) : dataflowref04_less.f x.f0 x.f1 y.f0 y.f1 = some (ltE x y) := by
  unfold dataflowref04_less.f ltE
  by_cases h : x.f0 < y.f0
  · simp [h]
  · by_cases h2 : x.f0 = y.f0
    · simp [h, h2]
    · simp [h, h2]
def Asc (l : List S53) : Prop := l.Pairwise fun a b => ltE a b = true
theorem asc_toP {l : List S53} : Asc l ↔ (l.map toP).Pairwise LtP := by
  unfold Asc
  rw [List.pairwise_map]
  exact ⟨fun h => h.imp fun h => ltE_LtP.1 h, fun h => h.imp fun h => ltE_LtP.2 h⟩
theorem ltE_tri {x y : S53} (h1 : ltE x y = false) (h2 : ltE y x = false) : x = y := by
  have a : ¬ _ := fun h => by rw [ltE_iff.2 h] at h1; cases h1
  have b : ¬ _ := fun h => by rw [ltE_iff.2 h] at h2; cases h2
  exact S53_ext (by omega) (by omega)
theorem dedupE_eq {l m : List S53} (hm : Asc m) (h : ∀ x, x ∈ m ↔ x ∈ l) : dedupE l = m := by
  unfold dedupE
  rw [sortDedup_eq (asc_toP.1 hm) (fun x => ?_)]
  · rw [List.map_map]; exact List.map_id' _
  · constructor
    · intro hx
      obtain ⟨y, hy, rfl⟩ := List.mem_map.1 hx
      exact List.mem_map.2 ⟨y, (h y).1 hy, rfl⟩
    · intro hx
      obtain ⟨y, hy, rfl⟩ := List.mem_map.1 hx
      exact List.mem_map.2 ⟨y, (h y).2 hy, rfl⟩
theorem dedupE_asc (l : List S53) : Asc (dedupE l) := by
  rw [asc_toP]
  unfold dedupE
  rw [List.map_map, show (toP ∘ ofP) = id from rfl, List.map_id]
  exact sortDedup_sorted _
theorem mem_dedupE (l : List S53) (x : S53) : x ∈ dedupE l ↔ x ∈ l := by
  unfold dedupE
  rw [List.mem_map]
  constructor
  · rintro ⟨p, hp, rfl⟩
    obtain ⟨y, hy, rfl⟩ := List.mem_map.1 ((mem_sortDedup _ _).1 hp)
    exact hy
  · intro h
    exact ⟨toP x, (mem_sortDedup _ _).2 (List.mem_map.2 ⟨x, h, rfl⟩), rfl⟩
theorem dedupE_len (l : List S53) : (dedupE l).length ≤ l.length := by
  unfold dedupE sortDedup compactUpTo
  rw [List.length_map, List.length_map]
  refine Nat.le_trans (List.length_filter_le _ _) ?_
  simp [srtP_size]
theorem take_drop_head {l : List S53} {i : Nat} (h : i < l.length) : l.drop i = l[i] :: l.drop (i + 1) := List.drop_eq_getElem_cons h
theorem asc_drop {l : List S53} (h : Asc l) {i : Nat} (hi : i < l.length) : (∀ y ∈ l.drop (i + 1), ltE l[i] y = true) := by
  have := List.Pairwise.drop (i := i) h
  rw [take_drop_head hi] at this
  exact (List.pairwise_cons.1 this).1
theorem merge_l0 (a b : List S53) (ha : Asc a) (hb : Asc b) (hla : a.length ≤ 1000000) (hlb : b.length ≤ 1000000) : ∀ (d i j : Nat) (k : Nat) (out : List S53), a.length - i + (b.length - j) = d → i ≤ a.length → j ≤ b.length → out.length + d ≤ 4000000 → 3 * d + 3 ≤ k →
    ∃ m, dataflowref04_sorted.l0 k a b out (i : Int) (j : Int) = some (out ++ m) ∧ Asc m ∧ m.length ≤ d ∧ ∀ x, x ∈ m ↔ x ∈ a.drop i ∨ x ∈ b.drop j := by
  intro d
  induction d with
  | zero =>
    intro i j k out hd hi hj ho hk
    obtain ⟨k, rfl⟩ : ∃ k', k = k' + 2 := ⟨k - 2, by omega⟩
    have h1 : ¬ ((i : Int) < (a.length : Int)) := by omega
    have h2 : ¬ ((j : Int) < (b.length : Int)) := by omega
    refine ⟨[], ?_, List.Pairwise.nil, Nat.le_refl _, fun x => ?_⟩
    · rw [dataflowref04_sorted.l0, if_neg h1, decide_eq_false h2, dataflowref04_sorted.j1, if_neg (by simp)]
      simp
    · rw [List.drop_eq_nil_of_le (by omega), List.drop_eq_nil_of_le (by omega)]
      simp
  | succ d ih =>
    intro i j k out hd hi hj ho hk
    obtain ⟨k, rfl⟩ : ∃ k', k = k' + 3 := ⟨k - 3, by omega⟩
    have e0 : dataflowref04_sorted.l0 (k + 3) a b out (i : Int) (j : Int) = dataflowref04_sorted.j1 (k + 2) a b out (i : Int) (j : Int) true := by
      rw [dataflowref04_sorted.l0]
      by_cases h1 : (i : Int) < (a.length : Int)
      · rw [if_pos h1]
      · rw [if_neg h1, decide_eq_true (by omega)]
    rw [e0, dataflowref04_sorted.j1, if_pos rfl]
    have takeA : ∀ (hi' : i < a.length), (∀ y ∈ b.drop j, ltE a[i] y = true) → ∃ m, dataflowref04_sorted.j2 (k + 1) a b out (i : Int) (j : Int) true = some (out ++ m) ∧ Asc m ∧ m.length ≤ d + 1 ∧ ∀ x, x ∈ m ↔ x ∈ a.drop i ∨ x ∈ b.drop j := by
      intro hi' hlt
      obtain ⟨m, h1, h2, hl, h3⟩ := ih (i + 1) j k (out ++ [a[i]]) (by omega) (by omega) hj (by simp; omega) (by omega)
      refine ⟨a[i] :: m, ?_, List.pairwise_cons.2 ⟨fun y hy => ?_, h2⟩, by simp; omega, fun x => ?_⟩
      · rw [dataflowref04_sorted.j2, if_pos rfl, if_pos (by omega), if_pos (by omega), if_pos (by omega), rd_at' hi', wrap_s (by omega) (by omega)]
        have : (⟨a[i].f0, a[i].f1⟩ : S53) = a[i] := rfl
        rw [this, show (i : Int) + 1 = ((i + 1 : Nat) : Int) by omega, h1]
        simp
      · rcases (h3 y).1 hy with h | h
        · exact asc_drop ha hi' y h
        · exact hlt y h
      · rw [List.mem_cons, h3, take_drop_head hi', List.mem_cons, or_assoc]
    have takeB : ∀ (hj' : j < b.length), (∀ y ∈ a.drop i, ltE b[j] y = true) → ∃ m, dataflowref04_sorted.l0 k a b (out ++ [(⟨b[j].f0, b[j].f1⟩ : S53)]) (i : Int) (wrap64 ((j : Int) + 1)) = some (out ++ m) ∧ Asc m ∧ m.length ≤ d + 1 ∧ ∀ x, x ∈ m ↔ x ∈ a.drop i ∨ x ∈ b.drop j := by
      intro hj' hlt
      obtain ⟨m, h1, h2, hl, h3⟩ := ih i (j + 1) k (out ++ [b[j]]) (by omega) hi (by omega) (by simp; omega) (by omega)
      refine ⟨b[j] :: m, ?_, List.pairwise_cons.2 ⟨fun y hy => ?_, h2⟩, by simp; omega, fun x => ?_⟩
      · have : (⟨b[j].f0, b[j].f1⟩ : S53) = b[j] := rfl
        rw [wrap_s (by omega) (by omega), this, show (j : Int) + 1 = ((j + 1 : Nat) : Int) by omega, h1]
        simp
      · rcases (h3 y).1 hy with h | h
        · exact hlt y h
        · exact asc_drop hb hj' y h
      · rw [List.mem_cons, h3, take_drop_head hj', List.mem_cons]
        constructor
        · rintro (h | h | h)
          · exact .inr (.inl h)
          · exact .inl h
          · exact .inr (.inr h)
        · rintro (h | h | h)
          · exact .inr (.inl h)
          · exact .inl h
          · exact .inr (.inr h)
    by_cases hjb : j = b.length
    · rw [if_pos (by omega)]
      have hi' : i < a.length := by omega
      exact takeA hi' (by rw [List.drop_eq_nil_of_le (by omega)]; simp)
    · rw [if_neg (by omega)]
      have hj' : j < b.length := by omega
      by_cases hia : i < a.length
      · rw [if_pos (by omega), if_pos (by omega), if_pos (by omega), if_pos (by omega), rd_at' hia, rd_at' hj', less_eq, Option.bind_some]
        cases hlt : ltE a[i] b[j] with
        | true =>
          refine takeA hia (fun y hy => ?_)
          rw [take_drop_head hj'] at hy
          rcases List.mem_cons.1 hy with rfl | h
          · exact hlt
          · exact ltE_trans hlt (asc_drop hb hj' y h)
        | false =>
          rw [dataflowref04_sorted.j2, if_neg (by simp), if_neg (by omega), if_pos (by omega), if_pos (by omega), if_pos (by omega), if_pos (by omega), rd_at' hia, rd_at' hj', less_eq, Option.bind_some]
          cases hgt : ltE b[j] a[i] with
          | true =>
            rw [if_pos rfl, if_pos (by omega)]
            refine takeB hj' (fun y hy => ?_)
            rw [take_drop_head hia] at hy
            rcases List.mem_cons.1 hy with rfl | h
            · exact hgt
            · exact ltE_trans hgt (asc_drop ha hia y h)
          | false =>
            rw [if_neg (by simp), wrap_s (by omega) (by omega), show (i : Int) + 1 = ((i + 1 : Nat) : Int) by omega]
            obtain ⟨m, h1, h2, hl, h3⟩ := ih (i + 1) j k out (by omega) (by omega) hj (by omega) (by omega)
            refine ⟨m, h1, h2, by omega, fun x => ?_⟩
            have e := ltE_tri hlt hgt
            rw [h3, take_drop_head hia, List.mem_cons]
            constructor
            · rintro (h | h)
              · exact .inl (.inr h)
              · exact .inr h
            · rintro ((h | h) | h)
              · rw [h, e]; exact .inr (by rw [take_drop_head hj']; exact List.mem_cons_self)
              · exact .inl h
              · exact .inr h
      · rw [if_neg (by omega), dataflowref04_sorted.j2, if_neg (by simp), if_pos (by omega), if_pos (by omega), if_pos (by omega), if_pos (by omega), rd_at' hj']
        exact takeB hj' (by rw [List.drop_eq_nil_of_le (by omega)]; simp)
theorem sorted_eq : ∀ (N : Nat) (l : List S53) (k : Nat), l.length ≤ N → N ≤ 1000000 → 4 * N + 4 ≤ k → dataflowref04_sorted.f k l = some (dedupE l) := by
  intro N
  induction N with
  | zero =>
    intro l k hl hN hk
    obtain rfl : l = [] := List.eq_nil_of_length_eq_zero (by omega)
    obtain ⟨k, rfl⟩ : ∃ k', k = k' + 1 := ⟨k - 1, by omega⟩
    rw [dataflowref04_sorted.f, if_pos (by simp), Option.bind_some, if_pos (by simp), dedupE_eq (m := []) List.Pairwise.nil (fun x => Iff.rfl)]
    rfl
  | succ N ih =>
    intro l k hl hN hk
    obtain ⟨k, rfl⟩ : ∃ k', k = k' + 1 := ⟨k - 1, by omega⟩
    rw [dataflowref04_sorted.f]
    by_cases h2 : (l.length : Int) < 2
    · rw [if_pos h2, Option.bind_some, if_pos (by simp; omega)]
      match l, h2 with
      | [], _ => rw [dedupE_eq (m := []) List.Pairwise.nil (fun x => Iff.rfl)]; rfl
      | [x], _ => rw [dedupE_eq (m := [x]) (List.pairwise_singleton _ _) (fun x => Iff.rfl)]; rfl
      | _ :: _ :: _, h => simp at h; omega
    · rw [if_neg h2]
      have e : wrap64 ((l.length : Int) / 2) = ((l.length / 2 : Nat) : Int) := by unfold wrap64; omega
      rw [e, if_pos (by omega), if_pos (by omega), Int.toNat_natCast]
      have h3 := ih (l.take (l.length / 2)) k (by simp; omega) (by omega) (by omega)
      have h4 := ih (l.drop (l.length / 2)) k (by simp; omega) (by omega) (by omega)
      rw [h3, Option.bind_some, h4, Option.bind_some]
      have la := dedupE_len (l.take (l.length / 2))
      have lb := dedupE_len (l.drop (l.length / 2))
      rw [List.length_take] at la
      rw [List.length_drop] at lb
      obtain ⟨m, h5, h6, _, h7⟩ := merge_l0 _ _ (dedupE_asc (l.take (l.length / 2))) (dedupE_asc (l.drop (l.length / 2))) (by omega) (by omega) _ 0 0 k [] rfl (Nat.zero_le _) (Nat.zero_le _) (by simp; omega) (by simp; omega)
      rw [show ((0 : Nat) : Int) = 0 from rfl] at h5
      rw [h5, List.nil_append, dedupE_eq h6]
      intro x
      rw [h7, List.drop_zero, List.drop_zero, mem_dedupE, mem_dedupE, ← List.mem_append, List.take_append_drop]
theorem within_alt (n : Int) (x : S53) : withinB n x = false ↔ x.f0 < 0 ∨ x.f0 ≥ n ∨ x.f1 < 0 ∨ x.f1 ≥ n := by
  have := @within_iff n x
  cases h : withinB n x with
  | true => have := this.1 h; simp; omega
  | false =>
    rw [h] at this
    simp at this
    simp
    omega
theorem refMake_l0 (n : Int) (l : List S53) (hl : l.length ≤ 1000000) : ∀ (d i k : Nat), l.length - i = d → i ≤ l.length → d + 4 * l.length + 5 ≤ k →
    dataflowref04_Make.l0 k n l (i : Int) = if (l.drop i).all (withinB n) = false then some (0, [], 4) else if (dedupE l).length > 32768 then some (0, [], 3) else some (n, dedupE l, 0) := by
  intro d
  induction d with
  | zero =>
    intro i k hd hi hk
    obtain ⟨k, rfl⟩ : ∃ k', k = k' + 1 := ⟨k - 1, by omega⟩
    rw [dataflowref04_Make.l0, if_neg (by omega), List.drop_eq_nil_of_le (by omega), sorted_eq l.length l k (Nat.le_refl _) hl (by omega), Option.bind_some]
    simp
    by_cases h : (dedupE l).length > 32768
    · rw [if_pos (by omega), if_pos h]
    · rw [if_neg (by omega), if_neg h]
  | succ d ih =>
    intro i k hd hi hk
    obtain ⟨k, rfl⟩ : ∃ k', k = k' + 1 := ⟨k - 1, by omega⟩
    have hi' : i < l.length := by omega
    rw [dataflowref04_Make.l0, if_pos (by omega), if_pos (by omega), rd_at' hi', wrap_s (by omega) (by omega), show (i : Int) + 1 = ((i + 1 : Nat) : Int) by omega, ih (i + 1) k (by omega) (by omega) (by omega), take_drop_head hi', List.all_cons]
    cases hw : withinB n l[i] with
    | false =>
      rw [Bool.false_and, if_pos rfl]
      rcases (within_alt n l[i]).1 hw with h | h | h | h
      · rw [if_pos h]
      · by_cases h0 : l[i].f0 < 0
        · rw [if_pos h0]
        · rw [if_neg h0, if_pos h]
      · by_cases h0 : l[i].f0 < 0
        · rw [if_pos h0]
        · by_cases h1 : l[i].f0 ≥ n
          · rw [if_neg h0, if_pos h1]
          · rw [if_neg h0, if_neg h1, if_pos h]
      · by_cases h0 : l[i].f0 < 0
        · rw [if_pos h0]
        · by_cases h1 : l[i].f0 ≥ n
          · rw [if_neg h0, if_pos h1]
          · by_cases h2 : l[i].f1 < 0
            · rw [if_neg h0, if_neg h1, if_pos h2]
            · rw [if_neg h0, if_neg h1, if_neg h2, if_pos h]
    | true =>
      have := within_iff.1 hw
      rw [if_neg (by omega), if_neg (by omega), if_neg (by omega), if_neg (by omega), Bool.true_and]
theorem refMake_eq (n : Int) (l : List S53) (hl : l.length ≤ 1000000) (k : Nat) (hk : 5 * l.length + 5 ≤ k) : dataflowref04_Make.f k n l = graph_Make.f n l := by
  unfold dataflowref04_Make.f graph_Make.f
  by_cases h0 : n < 0
  · rw [if_pos h0, if_pos h0]
  · rw [if_neg h0, if_neg h0]
    by_cases h1 : n > 8192
    · rw [if_pos h1, if_pos h1]
    · rw [if_neg h1, if_neg h1]
      have := refMake_l0 n l hl l.length 0 k (by omega) (Nat.zero_le _) (by omega)
      rw [show ((0 : Nat) : Int) = 0 from rfl, List.drop_zero] at this
      rw [this]
      by_cases h2 : l.all (withinB n) = false
      · rw [if_pos h2, if_pos h2]
      · have h3 : l.length ≤ 4398046511104 := by omega
        rw [if_neg h2, if_neg h2, if_pos h3]
theorem ne_test (x y : S53) : ((!(x.f0 == y.f0) || (!(x.f1 == y.f1))) = true) ↔ x ≠ y := by
  constructor
  · intro h e
    subst e
    simp at h
  · intro h
    by_cases h0 : x.f0 = y.f0
    · by_cases h1 : x.f1 = y.f1
      · exact absurd (S53_ext h0 h1) h
      · simp [h1]
    · simp [h0]
theorem drop_iff {α : Type} (a b : List α) (i : Nat) (ha : i < a.length) (hb : i < b.length) : a.drop i = b.drop i ↔ a[i] = b[i] ∧ a.drop (i + 1) = b.drop (i + 1) := by
  rw [List.drop_eq_getElem_cons ha, List.drop_eq_getElem_cons hb, List.cons.injEq]
theorem same_l0 (n m : Int) (a b : List S53) (hab : a.length = b.length) (hl : a.length ≤ 1000000) : ∀ (d i k : Nat), a.length - i = d → i ≤ a.length → d < k → dataflowref04_Same.l0 k (i : Int) n a m b = some (decide (a.drop i = b.drop i)) := by
  intro d
  induction d with
  | zero =>
    intro i k hd hi hk
    obtain ⟨k, rfl⟩ : ∃ k', k = k' + 1 := ⟨k - 1, by omega⟩
    rw [dataflowref04_Same.l0, if_neg (by omega), List.drop_eq_nil_of_le (by omega), List.drop_eq_nil_of_le (by omega)]
    simp
  | succ d ih =>
    intro i k hd hi hk
    obtain ⟨k, rfl⟩ : ∃ k', k = k' + 1 := ⟨k - 1, by omega⟩
    have ha : i < a.length := by omega
    have hb : i < b.length := by omega
    rw [dataflowref04_Same.l0, if_pos (by omega), if_pos (by omega), if_pos (by omega), rd_at' ha, rd_at' hb, wrap_s (by omega) (by omega), show (i : Int) + 1 = ((i + 1 : Nat) : Int) by omega, ih (i + 1) k (by omega) (by omega) (by omega)]
    by_cases h : a[i] = b[i]
    · rw [if_neg (fun hc => (ne_test _ _).1 hc h)]
      congr 1
      rw [decide_eq_decide, drop_iff a b i ha hb]
      simp [h]
    · rw [if_pos ((ne_test _ _).2 h)]
      congr 1
      exact (decide_eq_false (fun hc => h ((drop_iff a b i ha hb).1 hc).1)).symm
theorem same_eq (n m : Int) (a b : List S53) (hl : a.length ≤ 1000000) (k : Nat) (hk : a.length + 2 ≤ k) : dataflowref04_Same.f k n a m b = some (decide (n = m ∧ a = b)) := by
  obtain ⟨k, rfl⟩ : ∃ k', k = k' + 1 := ⟨k - 1, by omega⟩
  unfold dataflowref04_Same.f
  by_cases hn : n = m
  · rw [if_pos hn, dataflowref04_Same.j0]
    by_cases hab : a.length = b.length
    · rw [if_neg (by simp [hab])]
      have := same_l0 n m a b hab hl a.length 0 k (by omega) (Nat.zero_le _) (by omega)
      rw [show ((0 : Nat) : Int) = 0 from rfl, List.drop_zero, List.drop_zero] at this
      rw [this]
      simp [hn]
    · rw [if_pos (by simpa using fun h => hab (by omega))]
      congr 1
      exact (decide_eq_false (fun hc => hab (by rw [hc.2]))).symm
  · rw [if_neg hn, dataflowref04_Same.j0, if_pos rfl]
    simp [hn]
theorem exE : dedupE [⟨1, 2⟩, ⟨0, 1⟩, ⟨1, 2⟩] = [⟨0, 1⟩, ⟨1, 2⟩] := dedupE_eq (by unfold Asc; decide) (fun x => by simp only [List.mem_cons, List.not_mem_nil, or_false]; constructor; (rintro (h | h) <;> simp [h]); (rintro (h | h | h) <;> simp [h]))
theorem ex_make : graph_Make.f 3 [⟨1, 2⟩, ⟨0, 1⟩, ⟨1, 2⟩] = some (3, [⟨0, 1⟩, ⟨1, 2⟩], 0) := by
  unfold graph_Make.f
  rw [if_neg (by decide), if_neg (by decide), if_neg (by decide), if_pos (by decide), exE, if_neg (by decide)]
theorem ex_chk : chk 3 [⟨0, 1⟩, ⟨1, 2⟩] = 0 := by decide
theorem nodup_map_ {α β : Type} {f : α → β} (hf : ∀ a b, f a = f b → a = b) {l : List α} (h : l.Nodup) : (l.map f).Nodup := by
  rw [List.nodup_iff_pairwise_ne] at h ⊢
  rw [List.pairwise_map]
  exact h.imp (fun hne e => hne (hf _ _ e))
theorem srtP_perm (d : Array (Int × Int)) : (srtP d).toList.Perm d.toList := by
  obtain ⟨hp, hs⟩ := pdq_sorts (ltOf cmpP) swoP d 0 d.size (Lib.bitLen d.size) true true (Nat.zero_le _) (Nat.le_refl _) (Or.inl rfl)
  change PermIn 0 d.size d (srtP d) at hp
  have z := hp.2.2
  rw [Array.extract_eq_self_of_le (Nat.le_refl _), Array.extract_eq_self_of_le (by rw [hp.1]; exact Nat.le_refl _)] at z
  exact z
theorem sortE_perm (l : List S53) : (sortE l).Perm l := by
  unfold sortE
  have := (srtP_perm (l.map toP).toArray).map ofP
  simpa [List.map_map, show (ofP ∘ toP) = id from rfl] using this
theorem sortE_asc {l : List S53} (h : l.Nodup) : Asc (sortE l) := by
  have hn : (sortE l).Nodup := (sortE_perm l).nodup_iff.2 h
  obtain ⟨hs, _⟩ := srtP_spec (l.map toP).toArray
  rw [asc_toP]
  have e : (sortE l).map toP = (srtP (l.map toP).toArray).toList := by
    unfold sortE
    rw [List.map_map, show (toP ∘ ofP) = id from rfl, List.map_id]
  have hn2 : (srtP (l.map toP).toArray).toList.Nodup := by
    rw [← e]
    exact nodup_map_ (fun a b hab => by cases a; cases b; simpa [toP] using hab) hn
  rw [e]
  have hz := srtP_size (l.map toP).toArray
  generalize srtP (l.map toP).toArray = s at hs hn2 hz
  rw [List.pairwise_iff_getElem]
  intro i j hi hj hij
  have hi' : i < s.size := by simpa using hi
  have hj' : j < s.size := by simpa using hj
  have h1 := hs i j hij (by rw [← hz]; exact hj')
  rw [getElem!_pos s i hi', getElem!_pos s j hj'] at h1
  refine LtP.of_ne h1 (fun e => ?_)
  have := (List.nodup_iff_pairwise_ne.1 hn2)
  rw [List.pairwise_iff_getElem] at this
  exact this i j hi hj hij e
theorem asc_ext {l m : List S53} (hl : Asc l) (hm : Asc m) (h : ∀ x, x ∈ l ↔ x ∈ m) : l = m := by
  rw [← dedupE_eq hl (fun x => Iff.rfl), dedupE_eq hm (fun x => (h x).symm)]
theorem sortE_eq {l m : List S53} (h : l.Nodup) (hm : Asc m) (he : ∀ x, x ∈ m ↔ x ∈ l) : sortE l = m := asc_ext (sortE_asc h) hm (fun x => ((sortE_perm l).mem_iff).trans (he x).symm)
theorem ex_sort : sortE ([⟨0, 1⟩, ⟨1, 2⟩].map swapE) = [⟨1, 0⟩, ⟨2, 1⟩] := sortE_eq (by decide) (by unfold Asc; decide) (fun x => by simp [swapE])
theorem ex_path : graph_Path.f 3 [⟨0, 1⟩, ⟨1, 2⟩] 0 2 = some ([0, 1, 2], true) := by
  unfold graph_Path.f
  rw [if_pos ⟨⟨by decide, by decide, ex_chk⟩, by decide, by decide⟩, ex_sort]
  kernel_rfl
theorem ex_reach : graph_Reach.f 3 [⟨0, 1⟩, ⟨1, 2⟩] [1] = some [1, 2] := by
  unfold graph_Reach.f
  rw [if_pos ex_chk, if_pos (by decide)]
  kernel_rfl
theorem awake_eq : dataflowlaw04_awake.f = some true := by
  unfold dataflowlaw04_awake.f
  rw [ex_make, Option.bind_some, ex_path, Option.bind_some]
  simp [ex_reach]
theorem GraphMakes_pure (n : Int) (l : List S53) (hl : l.length ≤ 4611686018427387904) : ∃ k, dataflowlaw04_GraphMakes.f k n l = some true := by
  refine ⟨1000000, ?_⟩
  unfold dataflowlaw04_GraphMakes.f
  by_cases h : (l.length : Int) > 400
  · rw [if_pos h, awake_eq, Option.bind_some]
  · rw [if_neg h, refMake_eq n l (by omega) _ (by omega)]
    have hd := dedupE_len l
    obtain ⟨⟨r1, r2, r3⟩, hr, hz⟩ : ∃ r, graph_Make.f n l = some r ∧ r.2.1.length ≤ 400 ∧ (r.2.2 = 0 → chk r.1 r.2.1 = 0) := by
      unfold graph_Make.f
      by_cases h0 : n < 0
      · exact ⟨_, by rw [if_pos h0], by simp, by simp⟩
      · by_cases h1 : n > 8192
        · exact ⟨_, by rw [if_neg h0, if_pos h1], by simp, by simp⟩
        · by_cases h2 : l.all (withinB n) = false
          · exact ⟨_, by rw [if_neg h0, if_neg h1, if_pos h2], by simp, by simp⟩
          · have h3 : l.length ≤ 4398046511104 := by omega
            have h4 : ¬ (dedupE l).length > 32768 := by omega
            refine ⟨(n, dedupE l, 0), by rw [if_neg h0, if_neg h1, if_neg h2, if_pos h3, if_neg h4], by show (dedupE l).length ≤ 400; omega, fun _ => (chk_zero _ _).2 ⟨by simpa using h0, by simpa using h1, by simp; omega, fun x hx => ?_, dedupE_asc l⟩⟩
            have := List.all_eq_true.1 (by simpa using h2 : l.all (withinB n) = true)
            exact this x ((mem_dedupE l x).1 hx)
    rw [hr, Option.bind_some, Option.bind_some]
    simp only
    rw [if_pos trivial, same_eq _ _ _ _ (by have := hz.1; simp at this; omega) _ (by have := hz.1; simp at this; omega), Option.bind_some, if_pos (by simp), awake_eq]
    by_cases h0 : r3 = 0
    · rw [if_pos h0, Check_f _ _ _ (by have := hz.1; simp at this; omega), Option.bind_some, if_pos (hz.2 h0)]
      rfl
    · rw [if_neg h0]
      rfl
end Go.Proofs.YtfgbkklhjocmjaaDoor.Xq
namespace Go.Proofs.YtfgbkklhjocmjaaDoor.graphMakes
open Go.ChangeShapes Go.WideShapes Go.ChangeAt Go.RowKit
open Go.ChangeMaps (open_string shut_string)
set_option linter.unusedVariables false
theorem own : ownKnob Tryd.prog.godebug = none := by kernel_rfl
theorem laidOut : laidOutB Tryd.prog = true := by kernel_rfl
set_option maxRecDepth 100000 in
theorem lifted (os : Os) (started : os.Started) (H : Type) (enc : TypeId × Value → H) :
    ReturnsInHanded {} Tryd.checked os 6 .any (fun w args => (Rows.graphMakesSpec.pre enc Tryd.prog Tryd.f6 [] false w args ∧ laidMetH Tryd.prog Xq.laidT w) ∧ sizedMet enc Tryd.prog Tryd.f6 (OpenSpec.ofChange Rows.graphMakesSpec) false w args) (Rows.graphMakesSpec.post enc Tryd.prog Tryd.f6 false true false false) := by
  refine returnsInHanded_of_change_and (C := Tryd.checked) (X := fun w _ => laidMetH Tryd.prog Xq.laidT w) (fun _ _ _ hh h => h.of_heap hh) own started (by kernel_rfl) Tryd.func6
    (ChangeSpec.witness_shaped (enc := enc) (C := Tryd.checked) (os := os) (X := fun w _ => laidMetH Tryd.prog Xq.laidT w) false (World.doorLaid Tryd.prog 400 os) #[.int .i64 0, .slice none 0 0] 8 rfl (World.shaped_of_RefB (by kernel_rfl) (by kernel_rfl)) (by kernel_rfl) (by kernel_rfl) (by kernel_rfl) (Xq.door_met os _)) ?_
  intro W base args ds gs before hval0 hW _ hsz0 hL _
  have hsz : (DataW.weightsEach Tryd.prog (Tryd.f6.params.toList ++ Rows.graphMakesSpec.plain.varTypes Tryd.prog) (ds ++ gs)).all (· ≤ reachBytes) = true := hsz0
  have hval : ∀ (j : Nat) t v, Tryd.f6.params[j]? = some t → args[j]? = some v → Value.okWide Tryd.prog W .any base t v := hval0
  have hG := Xq.tabW_of_met hL
  have hW' := hW
  obtain ⟨p, q, hA0, hV, rfl, hfz, hnd⟩ := hW
  have hA : DataW.TrodAll enc Tryd.prog W 0 (fun _ => true) true Tryd.f6.params.toList args.toList ds p := hA0
  rw [Tryd.params6] at hA hval hsz
  obtain ⟨v0, vs0, d0, ds0, p0, q0, hargs, rfl, rfl, h0, r0⟩ := trodAll_cons hA
  obtain ⟨v1, vs1, d1, ds1, p1, q1, rfl, rfl, rfl, h1, r1⟩ := trodAll_cons r0
  obtain ⟨rfl, rfl, rfl⟩ := trodAll_nil r1
  obtain rfl : args = #[v0, v1] := by cases args; simp_all
  obtain ⟨rfl, rfl⟩ := trodVars_none hV
  obtain ⟨a0, rfl, rfl, rfl, w0⟩ := open_int Tryd.underlying3 (hval 0 3 v0 rfl rfl) h0
  obtain ⟨A1, len1, cap1, rfl⟩ := okWide_slice Tryd.underlying22 (hval 1 22 v1 rfl rfl)
  have k1 := h1
  have lt1 : ∀ x ∈ p1, x.block < W.heap.size := by obtain ⟨m, hm⟩ := k1; exact DataW.trod_lt m _ _ _ hm
  obtain ⟨l1, rfl, hcap1, hs1, hC1, hw1⟩ := Xq.open_pairs hsz (j := 1) (t := 22) rfl rfl Tryd.underlying22 h1
  clear hA0 hval0 hsz0 hsz
  obtain ⟨k, hk⟩ := Xq.GraphMakes_pure a0 l1 (by omega)
  refine (Xq.dataflowlaw04_GraphMakes.calls k a0 A1 cap1 l1 true W hC1 hcap1 hG hk).mono fun e W' ⟨he, bel⟩ => ?_
  subst he
  exact ⟨_, rfl, _, _, _, [], _, [], hW', trodAll_mk1 (shut_bool Tryd.underlying4 _), (trodAll_cons_mk (shut_int Tryd.underlying3 w0) (trodAll_cons_mk (Below.trod laidOut (by kernel_rfl) (of_decide_eq_true (by kernel_rfl)) k1 bel lt1) trodAll_mk0)), rfl, bel.frame _, fun h => by cases h⟩
theorem over : Rows.graphMakesRow.holds Tryd.pinned (OpenSpec.ofChange Rows.graphMakesSpec) :=
  OpenClaim.holds_of_wide 6 Tryd.f6 rfl rfl rfl rfl rfl rfl rfl ⟨rfl, rfl, rfl, rfl, rfl⟩ rfl rfl rfl rfl rfl (by kernel_rfl) Tryd.func6 (by kernel_rfl)
    (of_decide_eq_true (by kernel_rfl)) (by unfold Func.isWrapper; first | (rw [if_pos (by decide +kernel)]; kernel_rfl) | (rw [if_neg (by decide +kernel)]; exact ⟨rfl, rfl⟩))
    (fun os started H enc _ => lifted os started H enc)
theorem card : Rows.GraphMakesCardSaid :=
  Claim7.holds_tied_plain_at .later [] [.data] true (true, "6edfda05db3e9c87ed9ac05de1d998720f094d24bf1f98e6008bbf5273ecd797") false
    over (fun _ h => by cases h) (by kernel_rfl) (fun _ h => by cases h) graphMakes_row_tie rfl ⟨rfl, rfl⟩ (by kernel_rfl) rfl
    (fun f fn hf hfn => by
      obtain rfl : f = 6 := Option.some.inj ((show Tryd.prog.funcNamed "dataflow/dataflowlaw04.GraphMakes" = some 6 by kernel_rfl).symm.trans hf) |>.symm
      obtain rfl : fn = Tryd.f6 := (Option.some.inj (Tryd.func6.symm.trans hfn)).symm
      exact ⟨by kernel_rfl, fun j t ht => by
        rw [Tryd.params6] at ht
        have hm : t ∈ [3, 22] := by simpa using Array.mem_of_getElem? ht
        have hall : ([3, 22].all fun u => !Tryd.prog.wantsStandIn u) = true := by kernel_rfl
        exact (show Tryd.prog.wantsStandIn t = false by simpa using List.all_eq_true.1 hall t hm)⟩)
    (by kernel_rfl)
#print axioms card
end Go.Proofs.YtfgbkklhjocmjaaDoor.graphMakes
namespace Go.Proofs.YtfgbkklhjocmjaaDoor
theorem graphMakes_holds : Rows.GraphMakesCardSaid := graphMakes.card
end Go.Proofs.YtfgbkklhjocmjaaDoor
