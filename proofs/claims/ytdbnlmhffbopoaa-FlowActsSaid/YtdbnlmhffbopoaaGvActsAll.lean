/- The plain laws of flow and the contract of the law FlowActs, in one text: it returns true. No condition. -/
import Derived.Test.YtdbnlmhffbopoaaXq0
import Derived.Test.YtdbnlmhffbopoaaXq3
import Derived.Test.YtdbnlmhffbopoaaXq6
import Derived.Test.YtdbnlmhffbopoaaGvPure
import Derived.Test.YtdbnlmhffbopoaaGvApply
import Derived.Test.YtdbnlmhffbopoaaGvUnion
import Derived.Test.YtdbnlmhffbopoaaGvIdent
import Derived.Test.YtdbnlmhffbopoaaGvSdI
import Derived.Deep.DeepMust
set_option linter.unusedVariables false
set_option linter.unusedSimpArgs false
namespace Go.Proofs.Ytdbnlmhffbopoaa.Xq
open Go.RowKit Go.Proofs.YtdbnlmhffbopoaaW.PrintWords Go.Proofs.YtdbnlmhffbopoaaW.PrintLast Go.Proofs.YtdbnlmhffbopoaaW.PrintMore Go.Proofs.Ytdbnlmhffbopoaa.Gv
/-! ### dataflowlaw29_facts: function 18 -/
def dataflowlaw29_facts.l0 : Nat → List Int → List Int → Int → Option (Bool)
  | 0, _, _, _ => none
  | k + 1, x0, x1, x5 => if x5 < (x0.length : Int) then (if 0 ≤ x5 then (if x5 < (x1.length : Int) then (if (rd x0 x5) = (rd x1 x5) then (dataflowlaw29_facts.l0 k x0 x1 (wrap64 (x5 + 1))) else (some false)) else (none)) else (none)) else (some true)
def dataflowlaw29_facts.f (k : Nat) (l0 : List Int) (l1 : List Int) : Option (Bool) := if (l0.length : Int) = (l1.length : Int) then (dataflowlaw29_facts.l0 k l0 l1 0) else (some false)
theorem dataflowlaw29_facts.mono_l : ∀ k, (∀ y0 y1 y2, LeO (dataflowlaw29_facts.l0 k y0 y1 y2) (dataflowlaw29_facts.l0 (k + 1) y0 y1 y2))
  | 0 => fun _ _ _ r h => by simp [dataflowlaw29_facts.l0] at h
  | k + 1 => by
    have ih0 := dataflowlaw29_facts.mono_l k
    · intro y0 y1 y2
      unfold dataflowlaw29_facts.l0
      repeat' first
      | (with_reducible exact ih0 _ _ _)
      | (with_reducible exact LeO.refl _)
      | (with_reducible exact LeO.none _)
      | (with_reducible refine LeO.ite ?_ ?_)
      | (with_reducible refine LeO.bind ?_ (fun _ => ?_))
      | exact ih0 _ _ _
      | exact LeO.none _
      | refine LeO.ite ?_ ?_
      | refine LeO.bind ?_ (fun _ => ?_)
theorem dataflowlaw29_facts.mono : ∀ a0 a1 k, LeO (dataflowlaw29_facts.f k a0 a1) (dataflowlaw29_facts.f (k + 1) a0 a1) := by
  intro a0 a1 k
  have ih0 := dataflowlaw29_facts.mono_l k
  unfold dataflowlaw29_facts.f
  repeat' first
      | (with_reducible exact ih0 _ _ _)
      | (with_reducible exact LeO.refl _)
      | (with_reducible exact LeO.none _)
      | (with_reducible refine LeO.ite ?_ ?_)
      | (with_reducible refine LeO.bind ?_ (fun _ => ?_))
      | exact ih0 _ _ _
      | exact LeO.none _
      | refine LeO.ite ?_ ?_
      | refine LeO.bind ?_ (fun _ => ?_)
set_option maxHeartbeats 8000000 in
set_option maxRecDepth 100000 in
theorem dataflowlaw29_facts.calls (k : Nat) (A0 : Option Addr) (c0 : Nat) (l0 : List Int) (A1 : Option Addr) (c1 : Nat) (l1 : List Int) (r : Bool) (w : World) (hr0 : Kd.C (Kd.int .i64) w A0 l0.length l0) (hc0 : l0.length ≤ c0) (hr1 : Kd.C (Kd.int .i64) w A1 l1.length l1) (hc1 : l1.length ≤ c1) (h : dataflowlaw29_facts.f k l0 l1 = some r) :
    Calls Try.prog 18 #[.slice A0 l0.length c0, .slice A1 l1.length c1] w fun e w' => e = .returned (.bool r) ∧ Drawn0 w w' := by
  have HR0 := Aside0.mk hr0
  have HC0 := Aside0.mk hc0
  clear hr0 hc0
  have HR1 := Aside0.mk hr1
  have HC1 := Aside0.mk hc1
  clear hr1 hc1
  have H : (if (l0.length : Int) = (l1.length : Int) then (dataflowlaw29_facts.l0 k l0 l1 0) else (some false)) = some r := h
  clear h
  by_cases c3 : (l0.length : Int) = (l1.length : Int)
  · rw [if_pos c3] at H
    have c3b0 : ((l0.length : Int) == (l1.length : Int)) = true := beq_iff_eq.mpr c3
    have c3b1 : ((l0.length : Int) != (l1.length : Int)) = false := bne_eq_false_iff_eq.mpr c3
    have c3b2 : (l0.length == l1.length) = true := by first | simpa using c3 | (simp at c3 ⊢; omega)
    clear c3
    have H' := Aside0.mk H
    clear H
    go_enter Try.func18, Try.ntmps18
    go_wp2
    repeat (go_quiet (fail); try go_wp2)
    go_loopg [5] k (fun kq v5 w' => ∃ (x5_1 : Int), v5 = .int .i64 x5_1 ∧ Aside0 (dataflowlaw29_facts.l0 kq l0 l1 x5_1 = some r) ∧ Aside0 (kq ≤ k) ∧ Drawn0 w w')
    case atStart => exact ⟨(0), (by first | rfl | (simp; done) | (simp [*]; done)), H', ⟨Nat.le_refl _⟩, by repeat (first | exact Drawn0.refl _ | apply Drawn0.step)⟩
    case round =>
      clear H'
      try clear c1
      try clear p2
      try clear c3
      try clear c3b0
      try clear c3b1
      try clear c3b2
      obtain ⟨x5_1, rfl, HA, HK1, ⟨m1, rfl⟩⟩ := hrel
      cases gk with
      | zero => exact absurd HA.out (by simp [dataflowlaw29_facts.l0])
      | succ k1 =>
        have H := HA.out
        clear HA
        simp only [dataflowlaw29_facts.l0] at H
        by_cases c4 : x5_1 < (l0.length : Int)
        · rw [if_pos c4] at H
          have c4b0 : decide (x5_1 < (l0.length : Int)) = true := decide_eq_true c4
          clear c4
          by_cases c5 : 0 ≤ x5_1
          · rw [if_pos c5] at H
            have c5b0 : decide (0 ≤ x5_1) = true := decide_eq_true c5
            clear c5
            by_cases c6 : x5_1 < (l1.length : Int)
            · rw [if_pos c6] at H
              have c6b0 : decide (x5_1 < (l1.length : Int)) = true := decide_eq_true c6
              clear c6
              by_cases c7 : (rd l0 x5_1) = (rd l1 x5_1)
              · rw [if_pos c7] at H
                have c7b0 : ((rd l0 x5_1) == (rd l1 x5_1)) = true := beq_iff_eq.mpr c7
                have c7b1 : ((rd l0 x5_1) != (rd l1 x5_1)) = false := bne_eq_false_iff_eq.mpr c7
                clear c7
                have H' := Aside0.mk H
                clear H
                have p193 : 0 ≤ (x5_1 : Int) := of_decide_eq_true (by first | (with_reducible assumption) | assumption)
                have q193 : x5_1 < (l0.length : Int) := of_decide_eq_true (by first | (with_reducible assumption) | assumption)
                obtain ⟨ad193, e193, hx193_0⟩ := Kd.at_int HR0.out x5_1 p193 q193
                cases e193
                replace p193 := eq_true p193
                replace q193 := eq_true q193
                have p194 : 0 ≤ (x5_1 : Int) := of_decide_eq_true (by first | (with_reducible assumption) | assumption)
                have q194 : x5_1 < (l1.length : Int) := of_decide_eq_true (by first | (with_reducible assumption) | assumption)
                obtain ⟨ad194, e194, hx194_0⟩ := Kd.at_int HR1.out x5_1 p194 q194
                cases e194
                replace p194 := eq_true p194
                replace q194 := eq_true q194
                go_wp2
                repeat (go_quiet (fail); try go_wp2)
                go_roundg k1
                case measure => have := HK1.out; omega
                case rel => exact ⟨(wrap64 (x5_1 + 1)), (by first | rfl | (simp; done) | (simp [*]; done)), H', ⟨by have := HK1.out; omega⟩, by repeat (first | exact Drawn0.refl _ | apply Drawn0.step)⟩
              · rw [if_neg c7] at H
                have c7b0 : ((rd l0 x5_1) == (rd l1 x5_1)) = false := beq_eq_false_iff_ne.mpr c7
                have c7b1 : ((rd l0 x5_1) != (rd l1 x5_1)) = true := bne_iff_ne.mpr c7
                obtain rfl := Option.some.inj H
                have p193 : 0 ≤ (x5_1 : Int) := of_decide_eq_true (by first | (with_reducible assumption) | assumption)
                have q193 : x5_1 < (l0.length : Int) := of_decide_eq_true (by first | (with_reducible assumption) | assumption)
                obtain ⟨ad193, e193, hx193_0⟩ := Kd.at_int HR0.out x5_1 p193 q193
                cases e193
                replace p193 := eq_true p193
                replace q193 := eq_true q193
                have p194 : 0 ≤ (x5_1 : Int) := of_decide_eq_true (by first | (with_reducible assumption) | assumption)
                have q194 : x5_1 < (l1.length : Int) := of_decide_eq_true (by first | (with_reducible assumption) | assumption)
                obtain ⟨ad194, e194, hx194_0⟩ := Kd.at_int HR1.out x5_1 p194 q194
                cases e194
                replace p194 := eq_true p194
                replace q194 := eq_true q194
                go_wp2
                repeat (go_quiet (fail); try go_wp2)
                go_ret
                exact ⟨by first | rfl | (simp; done) | (simp [*]; done), by repeat (first | exact Drawn0.refl _ | apply Drawn0.step)⟩
            · rw [if_neg c6] at H
              exact absurd H (by simp)
          · rw [if_neg c5] at H
            exact absurd H (by simp)
        · rw [if_neg c4] at H
          have c4b0 : decide (x5_1 < (l0.length : Int)) = false := decide_eq_false c4
          clear c4
          obtain rfl := Option.some.inj H
          go_wp2
          repeat (go_quiet (fail); try go_wp2)
          go_ret
          exact ⟨by first | rfl | (simp; done) | (simp [*]; done), by repeat (first | exact Drawn0.refl _ | apply Drawn0.step)⟩
  · rw [if_neg c3] at H
    have c3b0 : ((l0.length : Int) == (l1.length : Int)) = false := beq_eq_false_iff_ne.mpr c3
    have c3b1 : ((l0.length : Int) != (l1.length : Int)) = true := bne_iff_ne.mpr c3
    have c3b2 : (l0.length == l1.length) = false := by first | simpa using c3 | (simp at c3 ⊢; omega)
    obtain rfl := Option.some.inj H
    go_enter Try.func18, Try.ntmps18
    go_wp2
    repeat (go_quiet (fail); try go_wp2)
    go_ret
    exact ⟨by first | rfl | (simp; done) | (simp [*]; done), by repeat (first | exact Drawn0.refl _ | apply Drawn0.step)⟩

-- GIVEN: function 19 (flow_Apply)


/-! ### dataflowlaw29_few: function 22 -/
def dataflowlaw29_few.f (l0 : List (S44)) (l1 : List (S44)) : Option (Bool) := if (l0.length : Int) ≤ 60 then (some (decide ((l1.length : Int) ≤ 60))) else (some false)
set_option maxHeartbeats 8000000 in
set_option maxRecDepth 100000 in
theorem dataflowlaw29_few.calls (A0 : Option Addr) (c0 : Nat) (l0 : List (S44)) (A1 : Option Addr) (c1 : Nat) (l1 : List (S44)) (r : Bool) (w : World) (hr0 : Kd.C k44 w A0 l0.length l0) (hc0 : l0.length ≤ c0) (hr1 : Kd.C k44 w A1 l1.length l1) (hc1 : l1.length ≤ c1) (h : dataflowlaw29_few.f l0 l1 = some r) :
    Calls Try.prog 22 #[.slice A0 l0.length c0, .slice A1 l1.length c1] w fun e w' => e = .returned (.bool r) ∧ Drawn0 w w' := by
  have HR0 := Aside0.mk hr0
  have HC0 := Aside0.mk hc0
  clear hr0 hc0
  have HR1 := Aside0.mk hr1
  have HC1 := Aside0.mk hc1
  clear hr1 hc1
  have H : (if (l0.length : Int) ≤ 60 then (some (decide ((l1.length : Int) ≤ 60))) else (some false)) = some r := h
  clear h
  by_cases c3 : (l0.length : Int) ≤ 60
  · rw [if_pos c3] at H
    have c3b0 : decide ((l0.length : Int) ≤ 60) = true := decide_eq_true c3
    have c3b1 : decide (l0.length ≤ 60) = true := decide_eq_true (by omega)
    clear c3
    obtain rfl := Option.some.inj H
    go_enter Try.func22, Try.ntmps22
    go_wp2
    go_ret
    exact ⟨by first | rfl | (simp; done) | (simp [*]; done), by repeat (first | exact Drawn0.refl _ | apply Drawn0.step)⟩
  · rw [if_neg c3] at H
    have c3b0 : decide ((l0.length : Int) ≤ 60) = false := decide_eq_false c3
    have c3b1 : decide (l0.length ≤ 60) = false := decide_eq_false (by omega)
    clear c3
    obtain rfl := Option.some.inj H
    go_enter Try.func22, Try.ntmps22
    go_wp2
    go_ret
    exact ⟨by first | rfl | (simp; done) | (simp [*]; done), by repeat (first | exact Drawn0.refl _ | apply Drawn0.step)⟩


theorem facts_l0 (a : List Int) (hb : a.length ≤ 4611686018427387904) : ∀ (m i k : Nat), a.length - i = m → i ≤ a.length → m < k → dataflowlaw29_facts.l0 k a a (i : Int) = some true := by
  intro m
  induction m with
  | zero =>
    intro i k hm hi hk
    obtain ⟨k, rfl⟩ : ∃ m, k = m + 1 := ⟨k - 1, by omega⟩
    simp only [dataflowlaw29_facts.l0]
    rw [if_neg (by omega)]
  | succ m ih =>
    intro i k hm hi hk
    obtain ⟨k, rfl⟩ : ∃ m, k = m + 1 := ⟨k - 1, by omega⟩
    simp only [dataflowlaw29_facts.l0]
    rw [if_pos (by omega), if_pos (by omega), if_pos (by omega), if_pos trivial, wrap_s (by omega) (by omega), show ((i : Int) + 1) = ((i + 1 : Nat) : Int) by omega]
    exact ih (i + 1) k (by omega) (by omega) (by omega)
theorem facts_refl (a : List Int) (hb : a.length ≤ 4611686018427387904) (k : Nat) (hk : a.length < k) : dataflowlaw29_facts.f k a a = some true := by
  unfold dataflowlaw29_facts.f
  rw [if_pos rfl]
  exact facts_l0 a hb a.length 0 k (by omega) (by omega) hk

theorem toP_inj {x y : S44} (h : toP x = toP y) : x = y := by
  cases x; cases y; simp [toP] at h; simp [h]
/-- pairs in order, each once -/
def sdP (l : List (Int × Int)) : List S44 := (sortDedup l).map ofP
theorem sdP_toP (l : List (Int × Int)) : (sdP l).map toP = sortDedup l := by
  unfold sdP
  rw [List.map_map, show toP ∘ ofP = id from rfl, List.map_id]
theorem sdP_len (l : List (Int × Int)) : (sdP l).length ≤ l.length := by
  unfold sdP
  rw [List.length_map]
  exact sortDedup_len l
theorem mem_sdP (l : List (Int × Int)) (x : S44) : x ∈ sdP l ↔ toP x ∈ l := by
  unfold sdP
  rw [List.mem_map]
  constructor
  · rintro ⟨q, hq, rfl⟩; exact (mem_sortDedup _ _).1 hq
  · intro h; exact ⟨toP x, (mem_sortDedup _ _).2 h, rfl⟩
theorem meets_len (f g : List S44) : (meets f g).length ≤ f.length * g.length := by
  unfold meets
  induction f with
  | nil => simp
  | cons x t ih =>
    rw [List.flatMap_cons, List.length_append, List.length_map, List.length_cons, Nat.succ_mul]
    have := fromL_len g x.f1
    omega
/-- in order, every fact in range -/
structure Good (l : List S44) (n : Int) : Prop where
  fits : ∀ x ∈ l, Fits x n
  asc : (l.map toP).Pairwise LtP
  zero : l.head? = some ⟨0, 0⟩
theorem endF_zero {l : List S44} (h : endF l = 0) : l.head? = some ⟨0, 0⟩ := by
  unfold endF at h
  split at h
  · assumption
  · simp at h
theorem cf_ok (l : List S44) (n : Int) : ∀ (d i : Nat), l.length - i = d → i ≤ l.length → cf l n d i = 0 → (∀ j (hj : j < l.length), i ≤ j → Fits l[j] n) ∧ (∀ j (hj : j < l.length) (h0 : 0 < j), i ≤ j → LtP (toP (l[j - 1]'(by omega))) (toP l[j])) ∧ l.head? = some ⟨0, 0⟩ := by
  intro d
  induction d with
  | zero =>
    intro i hd hi h
    exact ⟨fun j hj hij => by omega, fun j hj h0 hij => by omega, endF_zero h⟩
  | succ d ih =>
    intro i hd hi h
    have hlt : i < l.length := by omega
    simp only [cf] at h
    split at h
    · simp at h
    · rename_i h1
      split at h
      · simp at h
      · rename_i h2
        obtain ⟨g1, g2, g3⟩ := ih (i + 1) (by omega) (by omega) h
        have h1' := Classical.not_not.1 h1
        rw [show l.getD i z44 = l[i] by simp [hlt]] at h1' h2
        refine ⟨fun j hj hij => ?_, fun j hj h0 hij => ?_, g3⟩
        · rcases Nat.lt_or_ge i j with c | c
          · exact g1 j hj (by omega)
          · obtain rfl : i = j := by omega
            exact h1'
        · rcases Nat.lt_or_ge i j with c | c
          · exact g2 j hj h0 (by omega)
          · obtain rfl : i = j := by omega
            rw [show l.getD (i - 1) z44 = l[i - 1]'(by omega) by simp [show i - 1 < l.length by omega]] at h2
            exact Classical.not_not.1 (fun t => h2 ⟨h0, t⟩)
theorem asc_of_steps (l : List S44) (h : ∀ j (hj : j < l.length) (h0 : 0 < j), LtP (toP (l[j - 1]'(by omega))) (toP l[j])) : (l.map toP).Pairwise LtP := by
  rw [List.pairwise_iff_getElem]
  intro i j hi hj hij
  simp only [List.length_map] at hi hj
  simp only [List.getElem_map]
  obtain ⟨t, ht⟩ : ∃ t, j = i + 1 + t := ⟨j - i - 1, by omega⟩
  induction t generalizing j with
  | zero => subst ht; exact h (i + 1) hj (by omega)
  | succ t ih =>
    subst ht
    exact LtP.trans (ih (i + 1 + t) (by omega) (by omega) (by omega) rfl) (h (i + 1 + (t + 1)) hj (by omega))
theorem good_of_check {l : List S44} {n : Int} (h : chkF l n = 0) : Good l n := by
  unfold chkF at h
  split at h
  · simp at h
  · split at h
    · simp at h
    · obtain ⟨g1, g2, g3⟩ := cf_ok l n l.length 0 (by omega) (Nat.zero_le _) h
      exact ⟨fun x hx => by obtain ⟨j, hj, rfl⟩ := List.getElem_of_mem hx; exact g1 j hj (Nat.zero_le _), asc_of_steps l (fun j hj h0 => g2 j hj h0 (Nat.zero_le _)), g3⟩

theorem compose_eq (f g : List S44) (hf : f.length ≤ 65536) (hg : g.length ≤ 65536) : flow_Compose.f f g = some (sdP (meets f g)) := by
  unfold flow_Compose.f
  rw [if_pos ⟨hf, hg⟩]
  rfl
def idF (n : Nat) : List S44 := (List.range n).map fun d : Nat => (⟨d, d⟩ : S44)
theorem mem_idF (n : Nat) (x : S44) : x ∈ idF n ↔ 0 ≤ x.f0 ∧ x.f0 < n ∧ x.f1 = x.f0 := by
  unfold idF
  rw [List.mem_map]
  constructor
  · rintro ⟨d, hd, rfl⟩
    have := List.mem_range.1 hd
    exact ⟨by simp, by simpa using this, rfl⟩
  · rintro ⟨h0, h1, h2⟩
    obtain ⟨x0, x1⟩ := x
    simp only at h0 h1 h2
    exact ⟨x0.toNat, List.mem_range.2 (by omega), by rw [h2, Int.toNat_of_nonneg h0]⟩
theorem identity_eq : flow_Identity.f 50 = some (idF 50, 0) := by
  unfold flow_Identity.f
  rw [if_neg (by decide)]
  rfl

theorem mem_outF (f : List S44) (l : List Int) (d : Int) : d ∈ outF f l ↔ ∃ x ∈ f, x.f1 ≠ 0 ∧ (x.f0 ∈ l ∨ x.f0 = 0) ∧ d = x.f1 := by
  unfold outF
  simp only [List.mem_map, List.mem_filter, Bool.and_eq_true, Bool.or_eq_true, decide_eq_true_eq]
  constructor
  · rintro ⟨x, ⟨hx, h1, h2⟩, rfl⟩; exact ⟨x, hx, h1, h2, rfl⟩
  · rintro ⟨x, hx, h1, h2, rfl⟩; exact ⟨x, ⟨hx, h1, h2⟩, rfl⟩
theorem sdI_congr {a b : List Int} (h : ∀ x, x ∈ a ↔ x ∈ b) : sdI a = sdI b := sdI_eq (sdI_sorted b) fun x => (mem_sdI b x).trans (h x).symm
theorem Good.mem_zero {l : List S44} {n : Int} (h : Good l n) : (⟨0, 0⟩ : S44) ∈ l := List.mem_of_head? h.zero
/-- what Apply returns -/
def ap (f : List S44) (l : List Int) : List Int := sdI (outF f l)
theorem mem_ap (f : List S44) (l : List Int) (d : Int) : d ∈ ap f l ↔ ∃ x ∈ f, x.f1 ≠ 0 ∧ (x.f0 ∈ l ∨ x.f0 = 0) ∧ d = x.f1 := (mem_sdI _ _).trans (mem_outF f l d)
theorem ap_len (f : List S44) (l : List Int) : (ap f l).length ≤ f.length := Nat.le_trans (sdI_len _) (outF_len _ _)
theorem apply_eq (f : List S44) (l : List Int) (hf : f.length ≤ 4398046511104) (hl : l.length ≤ 4398046511104) : flow_Apply.f f l = some (ap f l) := by
  unfold flow_Apply.f
  rw [if_pos ⟨hf, hl⟩]
  rfl
theorem ap_compose {f g : List S44} {n : Int} (hf : Good f n) (l : List Int) : ap (sdP (meets f g)) l = ap g (ap f l) := by
  refine sdI_congr fun d => ?_
  rw [mem_outF, mem_outF]
  constructor
  · rintro ⟨p, hp, h1, h2, rfl⟩
    obtain ⟨x, hx, y, hy, e, e2⟩ := (mem_meets f g _).1 ((mem_sdP _ _).1 hp)
    have q : p.f0 = x.f0 ∧ p.f1 = y.f1 := by simpa [toP] using e2
    refine ⟨y, hy, by rw [← q.2]; exact h1, ?_, q.2⟩
    by_cases c : x.f1 = 0
    · exact .inr (e.trans c)
    · exact .inl ((mem_ap f l _).2 ⟨x, hx, c, by rw [← q.1]; exact h2, e⟩)
  · rintro ⟨y, hy, h1, h2, rfl⟩
    have key : ∃ x ∈ f, (x.f0 ∈ l ∨ x.f0 = 0) ∧ y.f0 = x.f1 := by
      rcases h2 with h2 | h2
      · obtain ⟨x, hx, _, h3, h4⟩ := (mem_ap f l _).1 h2
        exact ⟨x, hx, h3, h4⟩
      · exact ⟨⟨0, 0⟩, hf.mem_zero, .inr rfl, h2⟩
    obtain ⟨x, hx, h3, h4⟩ := key
    exact ⟨⟨x.f0, y.f1⟩, (mem_sdP _ _).2 ((mem_meets f g _).2 ⟨x, hx, y, hy, h4, rfl⟩), h1, h3, rfl⟩
theorem mem_ap_id (n : Nat) (l : List Int) (d : Int) : d ∈ outF (idF n) l ↔ d ∈ l ∧ 0 < d ∧ d < n := by
  rw [mem_outF]
  constructor
  · rintro ⟨x, hx, h1, h2, rfl⟩
    obtain ⟨q1, q2, q3⟩ := (mem_idF n x).1 hx
    rw [q3] at h1 ⊢
    rcases h2 with h2 | h2
    · exact ⟨h2, by omega, q2⟩
    · exact absurd h2 h1
  · rintro ⟨h1, h2, h3⟩
    exact ⟨⟨d, d⟩, (mem_idF n _).2 ⟨show 0 ≤ d by omega, h3, rfl⟩, show d ≠ 0 by omega, .inl h1, rfl⟩
theorem ap_range {f : List S44} {n : Int} (hf : Good f n) (l : List Int) (d : Int) (h : d ∈ ap f l) : 0 < d ∧ d < n := by
  obtain ⟨x, hx, h1, _, rfl⟩ := (mem_ap f l d).1 h
  have := hf.fits x hx
  unfold Fits at this
  omega
theorem ap_union {f g : List S44} {n : Nat} (hf : Good f n) (hg : Good g n) (l : List Int) : ap (sdP ((f ++ g).map toP)) l = ap (idF n) (ap f l ++ ap g l) := by
  refine sdI_congr fun d => ?_
  rw [mem_ap_id, List.mem_append, mem_outF]
  constructor
  · rintro ⟨x, hx, h1, h2, rfl⟩
    have hx' : x ∈ f ∨ x ∈ g := by
      obtain ⟨y, hy, e⟩ := List.mem_map.1 ((mem_sdP _ _).1 hx)
      rw [← toP_inj e]
      exact List.mem_append.1 hy
    have key : x.f1 ∈ ap f l ∨ x.f1 ∈ ap g l := hx'.imp (fun h => (mem_ap f l _).2 ⟨x, h, h1, h2, rfl⟩) (fun h => (mem_ap g l _).2 ⟨x, h, h1, h2, rfl⟩)
    exact ⟨key, key.elim (ap_range hf l _) (ap_range hg l _)⟩
  · rintro ⟨h | h, _⟩
    · obtain ⟨x, hx, h1, h2, rfl⟩ := (mem_ap f l d).1 h
      exact ⟨x, (mem_sdP _ _).2 (List.mem_map.2 ⟨x, List.mem_append.2 (.inl hx), rfl⟩), h1, h2, rfl⟩
    · obtain ⟨x, hx, h1, h2, rfl⟩ := (mem_ap g l d).1 h
      exact ⟨x, (mem_sdP _ _).2 (List.mem_map.2 ⟨x, List.mem_append.2 (.inr hx), rfl⟩), h1, h2, rfl⟩
theorem ap_parts {f : List S44} {n : Nat} (hf : Good f n) (a b : List Int) : ap f (a ++ b) = ap (idF n) (ap f a ++ ap f b) := by
  refine sdI_congr fun d => ?_
  rw [mem_ap_id, List.mem_append, mem_outF]
  constructor
  · rintro ⟨x, hx, h1, h2, rfl⟩
    have key : x.f1 ∈ ap f a ∨ x.f1 ∈ ap f b := by
      rcases h2 with h2 | h2
      · rcases List.mem_append.1 h2 with h | h
        · exact .inl ((mem_ap f a _).2 ⟨x, hx, h1, .inl h, rfl⟩)
        · exact .inr ((mem_ap f b _).2 ⟨x, hx, h1, .inl h, rfl⟩)
      · exact .inl ((mem_ap f a _).2 ⟨x, hx, h1, .inr h2, rfl⟩)
    exact ⟨key, key.elim (ap_range hf a _) (ap_range hf b _)⟩
  · rintro ⟨h | h, _⟩
    · obtain ⟨x, hx, h1, h2, rfl⟩ := (mem_ap f a d).1 h
      exact ⟨x, hx, h1, h2.imp (fun t => List.mem_append.2 (.inl t)) id, rfl⟩
    · obtain ⟨x, hx, h1, h2, rfl⟩ := (mem_ap f b d).1 h
      exact ⟨x, hx, h1, h2.imp (fun t => List.mem_append.2 (.inr t)) id, rfl⟩

theorem cf_zero {l : List S44} {n : Int} (h : Good l n) : ∀ (d i : Nat), l.length - i = d → i ≤ l.length → cf l n d i = 0 := by
  intro d
  induction d with
  | zero =>
    intro i hd hi
    simp only [cf, endF]
    rw [if_pos h.zero]
  | succ d ih =>
    intro i hd hi
    have hlt : i < l.length := by omega
    simp only [cf]
    rw [show l.getD i z44 = l[i] by simp [hlt], if_neg (fun t => t (h.fits _ (List.getElem_mem hlt))), if_neg, ih (i + 1) (by omega) (by omega)]
    rintro ⟨h0, h1⟩
    rw [show l.getD (i - 1) z44 = l[i - 1]'(by omega) by simp [show i - 1 < l.length by omega]] at h1
    have := List.pairwise_iff_getElem.1 h.asc (i - 1) i (by simp; omega) (by simpa using hlt) (by omega)
    simp only [List.getElem_map] at this
    exact h1 this
theorem chk_good {l : List S44} {n : Int} (h : Good l n) (h1 : 1 ≤ n) (h2 : n ≤ 1024) (hl : l.length ≤ 8192) : chkF l n = 0 := by
  unfold chkF
  rw [if_neg (by omega), if_neg (by omega), cf_zero h l.length 0 (by omega) (Nat.zero_le _)]
theorem good_sdP {X : List (Int × Int)} {n : Int} (hf : ∀ p ∈ X, Fits (ofP p) n) (hz : (0, 0) ∈ X) : Good (sdP X) n := by
  have ff : ∀ x ∈ sdP X, Fits x n := fun x hx => hf _ ((mem_sdP X x).1 hx)
  have aa : ((sdP X).map toP).Pairwise LtP := by rw [sdP_toP]; exact sortDedup_sorted X
  refine ⟨ff, aa, ?_⟩
  have hz' : (⟨0, 0⟩ : S44) ∈ sdP X := (mem_sdP X _).2 hz
  cases hs : sdP X with
  | nil => rw [hs] at hz'; simp at hz'
  | cons x t =>
    rw [hs] at hz' aa ff
    rcases List.mem_cons.1 hz' with h | h
    · rw [← h]; rfl
    · have q1 := (List.pairwise_cons.1 aa).1 _ (List.mem_map.2 ⟨_, h, rfl⟩)
      have q2 := ff x (by simp)
      unfold Fits at q2
      unfold LtP toP at q1
      simp only at q1
      omega
theorem good_meets {f g : List S44} {n : Int} (hf : Good f n) (hg : Good g n) : Good (sdP (meets f g)) n := good_sdP
  (fun p hp => by
    obtain ⟨x, hx, y, hy, _, rfl⟩ := (mem_meets f g p).1 hp
    have q1 := hf.fits x hx
    have q2 := hg.fits y hy
    exact ⟨q1.1, q1.2.1, q2.2.2.1, q2.2.2.2⟩)
  ((mem_meets f g _).2 ⟨_, hf.mem_zero, _, hg.mem_zero, rfl, rfl⟩)
theorem good_union {f g : List S44} {n : Int} (hf : Good f n) (hg : Good g n) : Good (sdP ((f ++ g).map toP)) n := good_sdP
  (fun p hp => by
    obtain ⟨x, hx, rfl⟩ := List.mem_map.1 hp
    rcases List.mem_append.1 hx with h | h
    · exact hf.fits x h
    · exact hg.fits x h)
  (List.mem_map.2 ⟨_, List.mem_append.2 (.inl hf.mem_zero), rfl⟩)

set_option maxRecDepth 100000 in
set_option maxHeartbeats 4000000 in
theorem acts_calls (A0 : Option Addr) (c0 : Nat) (l0 : List S44) (A1 : Option Addr) (c1 : Nat) (l1 : List S44) (A2 : Option Addr) (c2 : Nat) (l2 : List Int) (w : World)
    (hr0 : Kd.C k44 w A0 l0.length l0) (hc0 : l0.length ≤ c0) (hr1 : Kd.C k44 w A1 l1.length l1) (hc1 : l1.length ≤ c1) (hr2 : Kd.C kI w A2 l2.length l2) (hc2 : l2.length ≤ c2) (hl2 : l2.length ≤ 140737488355328) :
    Calls Try.prog 8 #[.slice A0 l0.length c0, .slice A1 l1.length c1, .slice A2 l2.length c2] w fun e w' => e = .returned (.bool true) ∧ Below w.heap.size w w' := by
  have R0 := As2.mk hr0
  have R1 := As2.mk hr1
  have R2 := As2.mk hr2
  clear hr0 hr1 hr2
  go_enter Try.func8, Try.ntmps8
  have KN : True := trivial
  by_cases hfew : l0.length ≤ 60 ∧ l1.length ≤ 60
  case neg =>
    go_wp2_with fail
    refine (dataflowlaw29_few.calls A0 c0 l0 A1 c1 l1 false w R0.out hc0 R1.out hc1 ?_).mono ?_
    · unfold dataflowlaw29_few.f
      by_cases h : (l0.length : Int) ≤ 60
      · rw [if_pos h, decide_eq_false (by omega)]
      · rw [if_neg h]
    rintro e w1 ⟨rfl, ⟨q, rfl⟩⟩
    go_wp2_with fail
    refine (dataflowlaw29_knows.calls 10 true _ (knows_eq 10 (by omega))).mono ?_
    rintro e w9 ⟨rfl, hb9⟩
    go_wp2_with fail
    go_ret
    exact ⟨rfl, below_step (pw_below_drewN (Below.refl _ _) _) hb9⟩
  obtain ⟨h0, h1⟩ := hfew
  go_wp2_with fail
  refine (dataflowlaw29_few.calls A0 c0 l0 A1 c1 l1 true w R0.out hc0 R1.out hc1 ?_).mono ?_
  · unfold dataflowlaw29_few.f
    rw [if_pos (by omega), decide_eq_true (by omega)]
  rintro e w1 ⟨rfl, ⟨q, hq⟩⟩
  have B1 := As2.mk (show Below w.heap.size w w1 by rw [hq]; exact pw_below_drewN (Below.refl _ _) _)
  clear hq q
  by_cases h2 : l2.length ≤ 60
  case neg =>
    go_wp2_with fail
    refine (dataflowlaw29_knows.calls 10 true _ (knows_eq 10 (by omega))).mono ?_
    rintro e w9 ⟨rfl, hb9⟩
    go_wp2_with fail
    go_ret
    exact ⟨rfl, below_step B1.out hb9⟩
  by_cases d0 : chkF l0 50 = 0
  case neg =>
    go_wp2_with fail
    refine (flow_Check.calls 1000 A0 c0 l0 50 (chkF l0 50) _ (Kd.C_below R0.out B1.out) hc0 (check_eq l0 50 1000 (by omega))).mono ?_
    rintro e w2 ⟨rfl, hb⟩
    have B2 := As2.mk (below_step B1.out hb)
    clear hb
    go_wp2_with fail
    refine (dataflowlaw29_knows.calls 10 true _ (knows_eq 10 (by omega))).mono ?_
    rintro e w9 ⟨rfl, hb9⟩
    go_wp2_with fail
    go_ret
    exact ⟨rfl, below_step B2.out hb9⟩
  go_wp2_with fail
  refine (flow_Check.calls 1000 A0 c0 l0 50 0 _ (Kd.C_below R0.out B1.out) hc0 (by rw [check_eq l0 50 1000 (by omega), d0])).mono ?_
  rintro e w2 ⟨rfl, hb⟩
  have B2 := As2.mk (below_step B1.out hb)
  clear hb B1
  by_cases d1 : chkF l1 50 = 0
  case neg =>
    have z1 : (chkF l1 50 != 0) = true := by simpa using d1
    have z2 : ¬ (chkF l1 50 != 0) = false := by rw [z1]; decide
    go_wp2_with fail
    refine (flow_Check.calls 1000 A1 c1 l1 50 (chkF l1 50) _ (Kd.C_below R1.out B2.out) hc1 (check_eq l1 50 1000 (by omega))).mono ?_
    rintro e w3 ⟨rfl, hb⟩
    have B3 := As2.mk (below_step B2.out hb)
    clear hb
    go_wp2_with fail
    refine (dataflowlaw29_knows.calls 10 true _ (knows_eq 10 (by omega))).mono ?_
    rintro e w9 ⟨rfl, hb9⟩
    go_wp2_with fail
    go_ret
    exact ⟨rfl, below_step B3.out hb9⟩
  go_wp2_with fail
  refine (flow_Check.calls 1000 A1 c1 l1 50 0 _ (Kd.C_below R1.out B2.out) hc1 (by rw [check_eq l1 50 1000 (by omega), d1])).mono ?_
  rintro e w3 ⟨rfl, hb⟩
  have B3 := As2.mk (below_step B2.out hb)
  clear hb B2
  have G0 := As2.mk (good_of_check d0)
  have G1 := As2.mk (good_of_check d1)
  clear d0 d1
  have Lm : (sdP (meets l0 l1)).length ≤ 3600 := by
    have m1 := sdP_len (meets l0 l1)
    have m2 := meets_len l0 l1
    have m3 : l0.length * l1.length ≤ 60 * 60 := Nat.mul_le_mul (by omega) (by omega)
    omega
  go_wp2_with fail
  refine (flow_Compose.calls A0 c0 l0 A1 c1 l1 (sdP (meets l0 l1)) _ (Kd.C_below R0.out B3.out) hc0 (Kd.C_below R1.out B3.out) hc1 (compose_eq l0 l1 (by omega) (by omega))).mono ?_
  rintro e w4 ⟨v4, rfl, g, hb⟩
  have B4 := As2.mk (below_step B3.out hb)
  obtain ⟨A7, c7, rfl, hc7, hC⟩ := Kd.R_reads g
  have hc7' := hc7
  have R7 := As2.mk hC
  have E7 := As2.mk (ap_compose (g := l1) G0.out l2)
  have G7 := As2.mk (good_meets G0.out G1.out)
  clear g hb hC B3
  generalize sdP (meets l0 l1) = H at *
  go_wp2_with fail
  refine (flow_Apply.calls A7 c7 H A2 c2 l2 (ap l1 (ap l0 l2)) _ (R7.out) hc7 (Kd.C_below R2.out B4.out) hc2 (by rw [apply_eq H l2 (by omega) (by omega), E7.out])).mono ?_
  rintro e w5 ⟨v5, rfl, g, hb⟩
  have B5 := As2.mk (below_step B4.out hb)
  have L5 := ap_len l1 (ap l0 l2)
  obtain ⟨A39, c39, rfl, hc5, hC⟩ := Kd.R_reads g
  have R39 := As2.mk hC
  have HB := As2.mk hb
  clear g hb hC
  have R7' := As2.mk (Kd.C_below R7.out HB.out)
  clear R7 HB B4
  go_wp2_with fail
  refine (flow_Apply.calls A0 c0 l0 A2 c2 l2 (ap l0 (l2)) _ (Kd.C_below R0.out B5.out) hc0 (Kd.C_below R2.out B5.out) hc2 (apply_eq l0 (l2) (by omega) (by omega))).mono ?_
  rintro e w6 ⟨v6, rfl, g, hb⟩
  have B6 := As2.mk (below_step B5.out hb)
  have L6 := ap_len l0 (l2)
  obtain ⟨A43, c43, rfl, hc6, hC⟩ := Kd.R_reads g
  have R43 := As2.mk hC
  have HB := As2.mk hb
  clear g hb hC
  have R7 := As2.mk (Kd.C_below R7'.out HB.out)
  have R39' := As2.mk (Kd.C_below R39.out HB.out)
  clear R7' R39 HB B5
  generalize hX : ap l0 l2 = X at *
  go_wp2_with fail
  refine (flow_Apply.calls A1 c1 l1 A43 c43 X (ap l1 (X)) _ (Kd.C_below R1.out B6.out) hc1 (R43.out) hc6 (apply_eq l1 (X) (by omega) (by omega))).mono ?_
  rintro e w7 ⟨v7, rfl, g, hb⟩
  have B7 := As2.mk (below_step B6.out hb)
  have L7 := ap_len l1 (X)
  obtain ⟨A44, c44, rfl, hc7, hC⟩ := Kd.R_reads g
  have R44 := As2.mk hC
  have HB := As2.mk hb
  clear g hb hC
  have R7' := As2.mk (Kd.C_below R7.out HB.out)
  have R39 := As2.mk (Kd.C_below R39'.out HB.out)
  clear R7 R39' R43 HB B6
  go_wp2_with fail
  generalize hY : ap l1 X = Y at *
  refine (dataflowlaw29_facts.calls 1000 A39 c39 Y A44 c44 Y true _ R39.out hc5 R44.out hc7 (facts_refl Y (by omega) 1000 (by omega))).mono ?_
  rintro e w8 ⟨rfl, hd⟩
  have B8 := As2.mk (below_step B7.out hd.below)
  have R7 := As2.mk (Kd.C_below R7'.out hd.below)
  clear R7' R39 R44 hd B7 E7
  go_wp2_with fail
  refine (flow_Union.calls A0 c0 l0 A1 c1 l1 (sdP ((l0 ++ l1).map toP)) _ (Kd.C_below R0.out B8.out) hc0 (Kd.C_below R1.out B8.out) hc1 (by unfold flow_Union.f; rw [if_pos (by omega)]; rfl)).mono ?_
  rintro e w9 ⟨v9, rfl, g, hb⟩
  have B9 := As2.mk (below_step B8.out hb)
  obtain ⟨A8, c8, rfl, hc8, hC⟩ := Kd.R_reads g
  have R8 := As2.mk hC
  have R7' := As2.mk (Kd.C_below R7.out hb)
  have EU := As2.mk (ap_union (n := 50) G0.out G1.out l2)
  have G8 := As2.mk (good_union G0.out G1.out)
  have LU : (sdP ((l0 ++ l1).map toP)).length ≤ 120 := by
    have := sdP_len ((l0 ++ l1).map toP)
    rw [List.length_map, List.length_append] at this
    omega
  clear g hb hC B8 R7
  generalize sdP ((l0 ++ l1).map toP) = U at *
  rw [hX] at EU
  have LZ := ap_len l1 l2
  generalize hZ : ap l1 l2 = Z at *
  go_wp2_with fail
  refine (flow_Apply.calls A0 c0 l0 A2 c2 l2 X _ (Kd.C_below R0.out B9.out) hc0 (Kd.C_below R2.out B9.out) hc2 (by rw [apply_eq l0 l2 (by omega) (by omega), hX])).mono ?_
  rintro e w10 ⟨v10, rfl, g, hb⟩
  have V10 := As2.mk g
  have B10 := As2.mk hb
  have BB := As2.mk (below_step B9.out hb)
  clear g hb
  go_wp2_with fail
  refine (flow_Apply.calls A1 c1 l1 A2 c2 l2 Z _ (Kd.C_below R1.out BB.out) hc1 (Kd.C_below R2.out BB.out) hc2 (by rw [apply_eq l1 l2 (by omega) (by omega), hZ])).mono ?_
  rintro e w11 ⟨v11, rfl, g, hb⟩
  obtain ⟨A56, c56, rfl, hc56, hC⟩ := Kd.R_reads g
  have V10' := As2.mk (Kd.R_below V10.out hb)
  have B11 := As2.mk (below_step B10.out hb)
  have R56 := As2.mk hC
  clear V10 B10 BB g hb hC
  go_wp2_with (at_builtin; refine Kd.R_append_rows kI (Rr := kI.K w11) (w0 := w9) w9.heap.size rfl (.tmp 53) (.tmp 56) 22 3 (.int .i64 0) 8 rfl Try.underlying22 gvI3 rfl (by decide) (by omega) v10 X Z A56 Z.length c56 (fun _ => True) (fun _ => False) rfl rfl ?aO ?aR ?aK (fun _ hk => hk.elim) (fun _ _ => trivial) ?aB ?aS ?aL ?_; (case aO => go_loud (exact V10'.out)); (case aR => go_loud (exact R56.out)); (case aK => go_loud (exact fun _ _ h => h)); (case aB => go_loud (exact B11.out)); (case aS => go_loud (exact B11.out.size)); (case aL => go_loud (omega)); intro v1 w12 ho hb hg hat; have F9 := As2.mk ho; have FB := As2.mk hb; clear ho hb hg hat)
  clear V10' B11 R56
  refine (flow_Identity.calls 50 (idF 50) 0 _ identity_eq).mono ?_
  rintro e w13 ⟨v13, rfl, g, hb⟩
  obtain ⟨A10, c10, rfl, hc10, hC⟩ := Kd.R_reads g
  obtain ⟨A9, c9, rfl, hc9, hC9⟩ := Kd.R_reads F9.out
  have BX := below_step FB.out hb
  have R10 := As2.mk hC
  have R9 := As2.mk (Kd.C_below hC9 hb)
  have R7 := As2.mk (Kd.C_below R7'.out BX)
  have R8' := As2.mk (Kd.C_below R8.out BX)
  have B13 := As2.mk (below_step B9.out BX)
  have LI : (idF 50).length ≤ 50 := by simp [idF]
  have LXZ : (X ++ Z).length ≤ 120 := by rw [List.length_append]; omega
  clear g hb hC hC9 BX F9 FB R7' R8 B9
  generalize X ++ Z = XZ at *
  generalize hI : idF 50 = I at *
  have LXI := ap_len I XZ
  go_wp2_with fail
  refine (flow_Apply.calls A8 c8 U A2 c2 l2 (ap I XZ) _ R8'.out hc8 (Kd.C_below R2.out B13.out) hc2 (by rw [apply_eq U l2 (by omega) (by omega), EU.out])).mono ?_
  rintro e w14 ⟨v14, rfl, g, hb⟩
  obtain ⟨A64, c64, rfl, hc64, hC⟩ := Kd.R_reads g
  have R64 := As2.mk hC
  have R7' := As2.mk (Kd.C_below R7.out hb)
  have R8 := As2.mk (Kd.C_below R8'.out hb)
  have R9' := As2.mk (Kd.C_below R9.out hb)
  have R10' := As2.mk (Kd.C_below R10.out hb)
  have B14 := As2.mk (below_step B13.out hb)
  clear g hb hC R7 R8' R9 R10 B13
  go_wp2_with fail
  refine (flow_Apply.calls A10 c10 I A9 c9 XZ (ap I XZ) _ R10'.out hc10 R9'.out hc9 (apply_eq I XZ (by omega) (by omega))).mono ?_
  rintro e w15 ⟨v15, rfl, g, hb⟩
  obtain ⟨A67, c67, rfl, hc67, hC⟩ := Kd.R_reads g
  have R67 := As2.mk hC
  have R64' := As2.mk (Kd.C_below R64.out hb)
  have R7 := As2.mk (Kd.C_below R7'.out hb)
  have R8' := As2.mk (Kd.C_below R8.out hb)
  have R10 := As2.mk (Kd.C_below R10'.out hb)
  have B15 := As2.mk (below_step B14.out hb)
  clear g hb hC R7' R8 R9' R10' B14 R64
  go_wp2_with fail
  generalize ap I XZ = Q at *
  refine (dataflowlaw29_facts.calls 1000 A64 c64 Q A67 c67 Q true _ R64'.out hc64 R67.out hc67 (facts_refl Q (by omega) 1000 (by omega))).mono ?_
  rintro e w16 ⟨rfl, hd⟩
  have B16 := As2.mk (below_step B15.out hd.below)
  have R7' := As2.mk (Kd.C_below R7.out hd.below)
  have R8 := As2.mk (Kd.C_below R8'.out hd.below)
  have R10' := As2.mk (Kd.C_below R10.out hd.below)
  clear hd R7 R8' R10 R64' R67 B15 EU
  obtain ⟨i3, hi3, hz3⟩ := Option.map_eq_some_iff.1 gvI3
  simp only [Prod.mk.injEq] at hz3
  have jn : ((l2.length : Int) / 2).toNat = l2.length / 2 := by omega
  have tk := fun W => (print_take_int (k := .i64) (P := Try.prog) 22 3 Try.underlying22 hi3 hz3.2.1 A2 c2 l2 ((l2.length : Int) / 2) (by omega) (by omega) hc2).1 W
  have tr := As2.mk (print_take_int (k := .i64) (P := Try.prog) 22 3 Try.underlying22 hi3 hz3.2.1 A2 c2 l2 ((l2.length : Int) / 2) (by omega) (by omega) hc2).2
  obtain ⟨A82, dk, dr, dc⟩ := print_drop_of (P := Try.prog) (Value.int .i64) 0 22 3 .i64 Try.underlying22 hi3 hz3.2.1 A2 c2 l2 ((l2.length : Int) / 2) (by omega) (by omega) hc2
  have DR := As2.mk dr
  clear hi3 hz3 dr
  have PT := As2.mk (ap_parts (n := 50) G0.out (l2.take (l2.length / 2)) (l2.drop (l2.length / 2)))
  rw [List.take_append_drop, hX, hI] at PT
  have lt1 : (l2.take (l2.length / 2)).length ≤ 60 := by simp; omega
  have lt2 : (l2.drop (l2.length / 2)).length ≤ 60 := by simp; omega
  rw [jn] at tr DR dc
  simp only [jn] at tk dk
  clear jn
  generalize l2.take (l2.length / 2) = ta at *
  generalize l2.drop (l2.length / 2) = tb at *
  generalize c2 - l2.length / 2 = c82 at *
  have LA := ap_len l0 ta
  have LB := ap_len l0 tb
  generalize hTA : ap l0 ta = TA at *
  generalize hTB : ap l0 tb = TB at *
  go_wp2_with fail
  refine (flow_Apply.calls A0 c0 l0 A2 c2 ta TA _ (Kd.C_below R0.out B16.out) hc0 (Kd.C_of_reads (d := (0 : Int)) (h1 := fun _ => rfl) (tr.out.1 _ (Kd.reads_of_C (d := (0 : Int)) (Kd.C_below R2.out B16.out)))) tr.out.2 (by rw [apply_eq l0 ta (by omega) (by omega), hTA])).mono ?_
  rintro e w17 ⟨v17, rfl, g, hb⟩
  have V17 := As2.mk g
  have B17 := As2.mk hb
  have BB := As2.mk (below_step B16.out hb)
  clear g hb tk
  go_wp2_with fail
  refine (flow_Apply.calls A0 c0 l0 A82 c82 tb TB _ (Kd.C_below R0.out BB.out) hc0 (Kd.C_of_reads (d := (0 : Int)) (h1 := fun _ => rfl) (DR.out _ (Kd.reads_of_C (d := (0 : Int)) (Kd.C_below R2.out BB.out)))) dc (by rw [apply_eq l0 tb (by omega) (by omega), hTB])).mono ?_
  rintro e w18 ⟨v18, rfl, g, hb⟩
  obtain ⟨A83, c83, rfl, hc83, hC⟩ := Kd.R_reads g
  have V17' := As2.mk (Kd.R_below V17.out hb)
  have B18 := As2.mk (below_step B17.out hb)
  have R83 := As2.mk hC
  clear V17 B17 BB g hb hC dk
  go_wp2_with (at_builtin; refine Kd.R_append_rows kI (Rr := kI.K w18) (w0 := w16) w16.heap.size rfl (.tmp 78) (.tmp 83) 22 3 (.int .i64 0) 8 rfl Try.underlying22 gvI3 rfl (by decide) (by omega) v17 TA TB A83 TB.length c83 (fun _ => True) (fun _ => False) rfl rfl ?aO ?aR ?aK (fun _ hk => hk.elim) (fun _ _ => trivial) ?aB ?aS ?aL ?_; (case aO => go_loud (exact V17'.out)); (case aR => go_loud (exact R83.out)); (case aK => go_loud (exact fun _ _ h => h)); (case aB => go_loud (exact B18.out)); (case aS => go_loud (exact B18.out.size)); (case aL => go_loud (omega)); intro v1 w19 ho hb hg hat; have F9 := As2.mk ho; have FB := As2.mk hb; clear ho hb hg hat)
  clear V17' B18 R83
  have B19 := As2.mk (below_step B16.out FB.out)
  have R7 := As2.mk (Kd.C_below R7'.out FB.out)
  have R8' := As2.mk (Kd.C_below R8.out FB.out)
  have R10 := As2.mk (Kd.C_below R10'.out FB.out)
  have LAB : (TA ++ TB).length ≤ 120 := by rw [List.length_append]; omega
  have F10 := F9.out
  clear R7' R8 R10' F9 FB
  refine (flow_Apply.calls A0 c0 l0 A2 c2 l2 X _ (Kd.C_below R0.out B19.out) hc0 (Kd.C_below R2.out B19.out) hc2 (by rw [apply_eq l0 l2 (by omega) (by omega), hX])).mono ?_
  rintro e w20 ⟨v20, rfl, g, hb⟩
  obtain ⟨A87, c87, rfl, hc87, hC⟩ := Kd.R_reads g
  obtain ⟨A13, c13, rfl, hc13, hC9⟩ := Kd.R_reads F10
  have R87 := As2.mk hC
  have R13 := As2.mk (Kd.C_below hC9 hb)
  have R7' := As2.mk (Kd.C_below R7.out hb)
  have R8 := As2.mk (Kd.C_below R8'.out hb)
  have R10' := As2.mk (Kd.C_below R10.out hb)
  have B20 := As2.mk (below_step B19.out hb)
  clear g hb hC hC9 F10 R7 R8' R10 B19
  generalize TA ++ TB = TT at *
  go_wp2_with fail
  refine (flow_Apply.calls A10 c10 I A13 c13 TT X _ R10'.out hc10 R13.out hc13 (by rw [apply_eq I TT (by omega) (by omega), ← PT.out])).mono ?_
  rintro e w21 ⟨v21, rfl, g, hb⟩
  obtain ⟨A90, c90, rfl, hc90, hC⟩ := Kd.R_reads g
  have R90 := As2.mk hC
  have R87' := As2.mk (Kd.C_below R87.out hb)
  have R7 := As2.mk (Kd.C_below R7'.out hb)
  have R8' := As2.mk (Kd.C_below R8.out hb)
  have B21 := As2.mk (below_step B20.out hb)
  clear g hb hC R7' R8 R10' R13 R87 B20
  go_wp2_with fail
  refine (dataflowlaw29_facts.calls 1000 A87 c87 X A90 c90 X true _ R87'.out hc87 R90.out hc90 (facts_refl X (by omega) 1000 (by omega))).mono ?_
  rintro e w22 ⟨rfl, hd⟩
  have R7' := As2.mk (Kd.C_below R7.out hd.below)
  have R8 := As2.mk (Kd.C_below R8'.out hd.below)
  have B22 := As2.mk (below_step B21.out hd.below)
  clear hd R7 R8' R87' R90 B21
  go_wp2_with fail
  refine (flow_Check.calls 10000 A7 c7 H 50 0 _ R7'.out hc7' (by rw [check_eq H 50 _ (by omega), chk_good G7.out (by omega) (by omega) (by omega)])).mono ?_
  rintro e w23 ⟨rfl, hb⟩
  have R8' := As2.mk (Kd.C_below R8.out hb)
  have B23 := As2.mk (below_step B22.out hb)
  clear hb R7' R8 B22
  go_wp2_with fail
  refine (flow_Check.calls 10000 A8 c8 U 50 0 _ R8'.out hc8 (by rw [check_eq U 50 _ (by omega), chk_good G8.out (by omega) (by omega) (by omega)])).mono ?_
  rintro e w24 ⟨rfl, hb⟩
  have B24 := As2.mk (below_step B23.out hb)
  clear hb R8' B23
  go_wp2_with fail
  refine (dataflowlaw29_knows.calls 10 true _ (knows_eq 10 (by omega))).mono ?_
  rintro e w25 ⟨rfl, hb⟩
  go_wp2_with fail
  go_ret
  exact ⟨rfl, below_step B24.out hb⟩

def dataflowlaw29_FlowActs.f (l0 : List S44) (l1 : List S44) (l2 : List Int) : Option Bool := if l2.length ≤ 140737488355328 then some true else none
theorem dataflowlaw29_FlowActs.calls (A0 : Option Addr) (c0 : Nat) (l0 : List S44) (A1 : Option Addr) (c1 : Nat) (l1 : List S44) (A2 : Option Addr) (c2 : Nat) (l2 : List Int) (r : Bool) (w : World)
    (hr0 : Kd.C k44 w A0 l0.length l0) (hc0 : l0.length ≤ c0) (hr1 : Kd.C k44 w A1 l1.length l1) (hc1 : l1.length ≤ c1) (hr2 : Kd.C (Kd.int .i64) w A2 l2.length l2) (hc2 : l2.length ≤ c2) (h : dataflowlaw29_FlowActs.f l0 l1 l2 = some r) :
    Calls Try.prog 8 #[.slice A0 l0.length c0, .slice A1 l1.length c1, .slice A2 l2.length c2] w fun e w' => e = .returned (.bool r) ∧ Below w.heap.size w w' := by
  unfold dataflowlaw29_FlowActs.f at h
  by_cases hl : l2.length ≤ 140737488355328
  · rw [if_pos hl] at h
    obtain rfl := Option.some.inj h
    exact acts_calls A0 c0 l0 A1 c1 l1 A2 c2 l2 w hr0 hc0 hr1 hc1 hr2 hc2 hl
  · rw [if_neg hl] at h
    cases h
theorem FlowActs_row (f g : List S44) (l : List Int) (_ : f.length * 16 ≤ 140737488351232) (_ : g.length * 16 ≤ 140737488351232) (h : l.length * 8 ≤ 140737488351232) : ∃ k : Nat, dataflowlaw29_FlowActs.f f g l = some true := ⟨0, if_pos (by omega)⟩

end Go.Proofs.Ytdbnlmhffbopoaa.Xq
