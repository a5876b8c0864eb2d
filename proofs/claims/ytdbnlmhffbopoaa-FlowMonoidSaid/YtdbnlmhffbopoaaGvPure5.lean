/- Over lists and numbers alone: composition is associative, the identity is neutral. -/
import Derived.Test.YtdbnlmhffbopoaaGvPure4
import Derived.Test.YtdbnlmhffbopoaaXq9
set_option linter.unusedVariables false
set_option linter.unusedSimpArgs false
namespace Go.Proofs.Ytdbnlmhffbopoaa.Xq
open Go.RowKit Go.Proofs.YtdbnlmhffbopoaaW.PrintWords Go.Proofs.YtdbnlmhffbopoaaW.PrintLast Go.Proofs.Ytdbnlmhffbopoaa.Gv

/-- in order, every fact in range -/
structure Good (l : List S44) (n : Int) : Prop where
  fits : ∀ x ∈ l, Fits x n
  asc : (l.map toP).Pairwise LtP
  zero : l.head? = some ⟨0, 0⟩
theorem endF_zero {l : List S44} (h : endF l = 0) : l.head? = some ⟨0, 0⟩ := by
  unfold endF at h
  split at h
  · assumption
  · simp at h
theorem cf_ok (l : List S44) (n : Int) : ∀ (d i : Nat), l.length - i = d → i ≤ l.length → cf l n d i = 0 → (∀ j (hj : j < l.length), i ≤ j → Fits l[j] n) ∧ (∀ j (hj : j < l.length) (h0 : 0 < j), i ≤ j → LtP (toP (l[j - 1]'(by omega))) (toP l[j])) ∧ l.head? = some ⟨0, 0⟩ := by
  intro d
  induction d with
  | zero =>
    intro i hd hi h
    exact ⟨fun j hj hij => by omega, fun j hj h0 hij => by omega, endF_zero h⟩
  | succ d ih =>
    intro i hd hi h
    have hlt : i < l.length := by omega
    simp only [cf] at h
    split at h
    · simp at h
    · rename_i h1
      split at h
      · simp at h
      · rename_i h2
        obtain ⟨g1, g2, g3⟩ := ih (i + 1) (by omega) (by omega) h
        have h1' := Classical.not_not.1 h1
        rw [show l.getD i z44 = l[i] by simp [hlt]] at h1' h2
        refine ⟨fun j hj hij => ?_, fun j hj h0 hij => ?_, g3⟩
        · rcases Nat.lt_or_ge i j with c | c
          · exact g1 j hj (by omega)
          · obtain rfl : i = j := by omega
            exact h1'
        · rcases Nat.lt_or_ge i j with c | c
          · exact g2 j hj h0 (by omega)
          · obtain rfl : i = j := by omega
            rw [show l.getD (i - 1) z44 = l[i - 1]'(by omega) by simp [show i - 1 < l.length by omega]] at h2
            exact Classical.not_not.1 (fun t => h2 ⟨h0, t⟩)
theorem asc_of_steps (l : List S44) (h : ∀ j (hj : j < l.length) (h0 : 0 < j), LtP (toP (l[j - 1]'(by omega))) (toP l[j])) : (l.map toP).Pairwise LtP := by
  rw [List.pairwise_iff_getElem]
  intro i j hi hj hij
  simp only [List.length_map] at hi hj
  simp only [List.getElem_map]
  obtain ⟨t, ht⟩ : ∃ t, j = i + 1 + t := ⟨j - i - 1, by omega⟩
  induction t generalizing j with
  | zero => subst ht; exact h (i + 1) hj (by omega)
  | succ t ih =>
    subst ht
    exact LtP.trans (ih (i + 1 + t) (by omega) (by omega) (by omega) rfl) (h (i + 1 + (t + 1)) hj (by omega))
theorem good_of_check {l : List S44} {n : Int} (h : chkF l n = 0) : Good l n := by
  unfold chkF at h
  split at h
  · simp at h
  · split at h
    · simp at h
    · obtain ⟨g1, g2, g3⟩ := cf_ok l n l.length 0 (by omega) (Nat.zero_le _) h
      exact ⟨fun x hx => by obtain ⟨j, hj, rfl⟩ := List.getElem_of_mem hx; exact g1 j hj (Nat.zero_le _), asc_of_steps l (fun j hj h0 => g2 j hj h0 (Nat.zero_le _)), g3⟩

theorem sdP_self {l : List S44} (h : (l.map toP).Pairwise LtP) (X : List (Int × Int)) (hm : ∀ p, p ∈ X ↔ ofP p ∈ l) : sdP X = l := by
  unfold sdP
  rw [sortDedup_eq h fun p => ?_, map_ofP_toP]
  rw [List.mem_map, hm]
  constructor
  · rintro ⟨x, hx, rfl⟩; exact hx
  · intro hx; exact ⟨ofP p, hx, rfl⟩
theorem sdP_congr {X Y : List (Int × Int)} (h : ∀ p, p ∈ X ↔ p ∈ Y) : sdP X = sdP Y := by
  unfold sdP
  rw [sortDedup_eq (sortDedup_sorted Y) fun p => (mem_sortDedup _ _).trans (h p).symm]
theorem compose_eq (f g : List S44) (hf : f.length ≤ 65536) (hg : g.length ≤ 65536) : flow_Compose.f f g = some (sdP (meets f g)) := by
  unfold flow_Compose.f
  rw [if_pos ⟨hf, hg⟩]
  rfl
theorem comp_assoc (f g h : List S44) : sdP (meets (sdP (meets f g)) h) = sdP (meets f (sdP (meets g h))) := by
  refine sdP_congr fun p => ?_
  rw [mem_meets, mem_meets]
  constructor
  · rintro ⟨u, hu, z, hz, e, rfl⟩
    obtain ⟨x, hx, y, hy, e2, e3⟩ := (mem_meets f g _).1 ((mem_sdP _ _).1 hu)
    have q1 : u.f0 = x.f0 ∧ u.f1 = y.f1 := by simpa [toP] using e3
    exact ⟨x, hx, ⟨y.f0, z.f1⟩, (mem_sdP _ _).2 ((mem_meets g h _).2 ⟨y, hy, z, hz, by rw [← q1.2]; exact e, rfl⟩), e2, by rw [q1.1]⟩
  · rintro ⟨x, hx, v, hv, e, rfl⟩
    obtain ⟨y, hy, z, hz, e2, e3⟩ := (mem_meets g h _).1 ((mem_sdP _ _).1 hv)
    have q1 : v.f0 = y.f0 ∧ v.f1 = z.f1 := by simpa [toP] using e3
    exact ⟨⟨x.f0, y.f1⟩, (mem_sdP _ _).2 ((mem_meets f g _).2 ⟨x, hx, y, hy, by rw [← q1.1]; exact e, rfl⟩), z, hz, e2, by rw [q1.2]⟩
def idF (n : Nat) : List S44 := (List.range n).map fun d : Nat => (⟨d, d⟩ : S44)
theorem mem_idF (n : Nat) (x : S44) : x ∈ idF n ↔ 0 ≤ x.f0 ∧ x.f0 < n ∧ x.f1 = x.f0 := by
  unfold idF
  rw [List.mem_map]
  constructor
  · rintro ⟨d, hd, rfl⟩
    have := List.mem_range.1 hd
    exact ⟨by simp, by simpa using this, rfl⟩
  · rintro ⟨h0, h1, h2⟩
    obtain ⟨x0, x1⟩ := x
    simp only at h0 h1 h2
    exact ⟨x0.toNat, List.mem_range.2 (by omega), by rw [h2, Int.toNat_of_nonneg h0]⟩
theorem comp_id_left {f : List S44} {n : Nat} (h : Good f n) : sdP (meets (idF n) f) = f :=
  sdP_self h.asc _ fun p => by
    rw [mem_meets]
    constructor
    · rintro ⟨x, hx, y, hy, e, rfl⟩
      have hx' := (mem_idF n x).1 hx
      have : ofP (x.f0, y.f1) = y := by
        obtain ⟨y0, y1⟩ := y
        show (⟨x.f0, y1⟩ : S44) = ⟨y0, y1⟩
        rw [← hx'.2.2, ← e]
      rw [this]
      exact hy
    · intro hp
      have := h.fits _ hp
      exact ⟨⟨p.1, p.1⟩, (mem_idF n _).2 ⟨this.1, this.2.1, rfl⟩, ofP p, hp, rfl, rfl⟩
theorem comp_id_right {f : List S44} {n : Nat} (h : Good f n) : sdP (meets f (idF n)) = f :=
  sdP_self h.asc _ fun p => by
    rw [mem_meets]
    constructor
    · rintro ⟨x, hx, y, hy, e, rfl⟩
      have hy' := (mem_idF n y).1 hy
      have : ofP (x.f0, y.f1) = x := by
        obtain ⟨x0, x1⟩ := x
        show (⟨x0, y.f1⟩ : S44) = ⟨x0, x1⟩
        rw [hy'.2.2, e]
      rw [this]
      exact hx
    · intro hp
      have := h.fits _ hp
      exact ⟨ofP p, hp, ⟨p.2, p.2⟩, (mem_idF n _).2 ⟨this.2.2.1, this.2.2.2, rfl⟩, rfl, rfl⟩
theorem identity_eq : flow_Identity.f 50 = some (idF 50, 0) := by
  unfold flow_Identity.f
  rw [if_neg (by decide)]
  rfl

theorem FlowMonoid_pure (f g h : List S44) : ∃ k, dataflowlaw29_FlowMonoid.f k f g h = some true := by
  refine ⟨400004, ?_⟩
  unfold dataflowlaw29_FlowMonoid.f
  have tt : dataflowlaw29_FlowMonoid.j0 400004 f g h true = some true := rfl
  by_cases h1 : (f.length : Int) > 25
  · rw [if_pos h1]; exact tt
  rw [if_neg h1]
  by_cases h2 : (g.length : Int) > 25
  · rw [if_pos h2]; exact tt
  rw [if_neg h2]
  by_cases h3 : (h.length : Int) > 25
  · rw [decide_eq_true h3]; exact tt
  rw [decide_eq_false h3]
  have kn : ∀ x0 x1 x2, dataflowlaw29_FlowMonoid.j1 400003 x0 x1 x2 true = some true := fun x0 x1 x2 => by
    simp only [dataflowlaw29_FlowMonoid.j1]
    rw [if_pos trivial, knows_eq _ (by omega)]
    rfl
  simp only [dataflowlaw29_FlowMonoid.j0]
  rw [if_neg (by decide), check_eq f 50 _ (by omega)]
  simp only [Option.bind_some]
  by_cases c1 : chkF f 50 = 0
  case neg => rw [if_neg c1]; exact kn _ _ _
  rw [if_pos c1, check_eq g 50 _ (by omega)]
  simp only [Option.bind_some]
  by_cases c2 : chkF g 50 = 0
  case neg => rw [if_neg c2]; exact kn _ _ _
  rw [if_pos c2, check_eq h 50 _ (by omega)]
  simp only [Option.bind_some]
  by_cases c3 : chkF h 50 = 0
  case neg => rw [show (chkF h 50 != 0) = true by simpa using c3]; exact kn _ _ _
  rw [show (chkF h 50 != 0) = false by simpa using c3]
  have m1 := meets_len f g
  have m2 : f.length * g.length ≤ 25 * 25 := Nat.mul_le_mul (by omega) (by omega)
  have m3 := meets_len g h
  have m4 : g.length * h.length ≤ 25 * 25 := Nat.mul_le_mul (by omega) (by omega)
  have s1 := sdP_len (meets f g)
  have s2 := sdP_len (meets g h)
  have m5 := meets_len (sdP (meets f g)) h
  have m6 : (sdP (meets f g)).length * h.length ≤ 625 * 25 := Nat.mul_le_mul (by omega) (by omega)
  have s3 := sdP_len (meets (sdP (meets f g)) h)
  have il : (idF 50).length = 50 := by simp [idF]
  simp only [dataflowlaw29_FlowMonoid.j1]
  rw [if_neg (by decide), identity_eq]
  simp only [Option.bind_some]
  rw [if_pos trivial, compose_eq f g (by omega) (by omega)]
  simp only [Option.bind_some]
  rw [compose_eq _ h (by omega) (by omega)]
  simp only [Option.bind_some]
  rw [compose_eq g h (by omega) (by omega)]
  simp only [Option.bind_some]
  rw [compose_eq f _ (by omega) (by omega), ← comp_assoc]
  simp only [Option.bind_some]
  rw [same_eq _ _ (by omega) _ (by omega), decide_eq_true rfl]
  simp only [Option.bind_some, Bool.not_true, dataflowlaw29_FlowMonoid.j2]
  rw [if_neg (by decide), compose_eq _ f (by omega) (by omega)]
  simp only [Option.bind_some]
  have q1 : sdP (meets (idF 50) f) = f := comp_id_left (n := 50) (good_of_check c1)
  have q2 : sdP (meets f (idF 50)) = f := comp_id_right (n := 50) (good_of_check c1)
  rw [q1, same_eq _ _ (by omega) _ (by omega), decide_eq_true rfl]
  simp only [Option.bind_some]
  rw [if_pos trivial, compose_eq f _ (by omega) (by omega)]
  simp only [Option.bind_some]
  rw [q2, same_eq _ _ (by omega) _ (by omega), decide_eq_true rfl]
  simp only [Option.bind_some]
  rw [if_pos trivial, knows_eq _ (by omega)]
  rfl
theorem FlowMonoid_row (f g h : List S44) (_ : f.length * 16 ≤ 140737488351232) (_ : g.length * 16 ≤ 140737488351232) (_ : h.length * 16 ≤ 140737488351232) : ∃ k, dataflowlaw29_FlowMonoid.f k f g h = some true := FlowMonoid_pure f g h
end Go.Proofs.Ytdbnlmhffbopoaa.Xq
