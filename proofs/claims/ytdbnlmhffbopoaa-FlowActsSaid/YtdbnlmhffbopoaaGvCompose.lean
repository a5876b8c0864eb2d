/- The contracts of flow.from and flow.Compose: the pairs that begin with d, a part of the list itself; the pairs that meet, in order, in new memory. Condition: at most 65536 pairs each. -/
import Derived.Test.YtdbnlmhffbopoaaGvBsf
import Derived.Deep.DeepMust
import Derived.Test.YtdbnlmhffbopoaaGvSdI
import Derived.Deep.QuietTactic
import Derived.BigQuiet
set_option linter.unusedVariables false
set_option linter.unusedSimpArgs false
namespace Go.Proofs.Ytdbnlmhffbopoaa.Xq
open Go.RowKit Go.Proofs.YtdbnlmhffbopoaaW.PrintWords Go.Proofs.YtdbnlmhffbopoaaW.PrintLast Go.Proofs.Ytdbnlmhffbopoaa.Gv

def fromL (l : List S44) (d : Int) : List S44 := l.filter fun p => decide (p.f0 = d)

theorem from1_calls (x : S44) (d : Int) (w : World) : Calls Try.prog 52 (#[.agg #[.int .i64 x.f0, .int .i64 x.f1], .int .i64 d] ++ #[]) w fun e w' => e = .returned (.int .i64 (cmpI x.f0 d)) ∧ Below w.heap.size w w' := by
  obtain ⟨x0, x1⟩ := x
  go_enter Try.func52, Try.ntmps52
  go_wp2_with (go_at_call 46; refine (compare_calls _ _ _).mono ?_; rintro e w' ⟨rfl, rfl⟩)
  go_ret
  exact ⟨rfl, below_alloc (Below.refl _ _) _⟩

theorem rd_get (l : List S44) (t : Nat) (h : t < l.length) : rd_T44 l (t : Int) = l[t] := by simp [rd_T44, h]

theorem fromL_cut (l : List S44) (d : Int) (i k : Nat) (hik : i ≤ k) (hk : k ≤ l.length) (hs : l.Pairwise fun a b => a.f0 ≤ b.f0) (h1 : ∀ t : Nat, t < i → (rd_T44 l t).f0 < d) (h2 : ∀ t : Nat, i ≤ t → t < l.length → d ≤ (rd_T44 l t).f0)
    (h3 : ∀ t : Nat, i ≤ t → t < k → (rd_T44 l t).f0 = d) (h4 : k < l.length → (rd_T44 l k).f0 ≠ d) : (l.take k).drop i = fromL l d := by
  have e : l = l.take i ++ ((l.take k).drop i ++ l.drop k) := by
    rw [← List.append_assoc]
    have : l.take i ++ (l.take k).drop i = l.take k := by
      have z := List.take_append_drop i (l.take k)
      rwa [List.take_take, Nat.min_eq_left hik] at z
    rw [this, List.take_append_drop]
  unfold fromL
  conv => rhs; rw [e]
  rw [List.filter_append, List.filter_append]
  have f1 : (l.take i).filter (fun p => decide (p.f0 = d)) = [] := by
    rw [List.filter_eq_nil_iff]
    intro a ha
    obtain ⟨t, ht, rfl⟩ := List.getElem_of_mem ha
    rw [List.length_take] at ht
    have := h1 t (by omega)
    rw [rd_get l t (by omega)] at this
    rw [List.getElem_take]
    simp
    omega
  have f2 : ((l.take k).drop i).filter (fun p => decide (p.f0 = d)) = (l.take k).drop i := by
    rw [List.filter_eq_self]
    intro a ha
    obtain ⟨t, ht, rfl⟩ := List.getElem_of_mem ha
    rw [List.length_drop, List.length_take] at ht
    have := h3 (i + t) (by omega) (by omega)
    rw [rd_get l _ (by omega)] at this
    rw [List.getElem_drop, List.getElem_take]
    simp [this]
  have f3 : (l.drop k).filter (fun p => decide (p.f0 = d)) = [] := by
    rw [List.filter_eq_nil_iff]
    intro a ha
    obtain ⟨t, ht, rfl⟩ := List.getElem_of_mem ha
    rw [List.length_drop] at ht
    have q1 := h4 (by omega)
    have q2 := h2 k hik (by omega)
    rw [rd_get l k (by omega)] at q1 q2
    rw [List.getElem_drop]
    have q3 : l[k].f0 ≤ l[k + t].f0 := by
      rcases Nat.eq_zero_or_pos t with rfl | hp
      · exact Int.le_refl _
      · exact List.pairwise_iff_getElem.1 hs k (k + t) (by omega) (by omega) (by omega)
    simp
    omega
  rw [f1, f2, f3, List.nil_append, List.append_nil]

theorem info44' : ∃ i : TypeInfo, Try.prog.info? 44 = some i ∧ i.size = 2 := by
  obtain ⟨i, h, hz⟩ := Option.map_eq_some_iff.1 zero44
  simp only [Prod.mk.injEq] at hz
  exact ⟨i, h, hz.2.1⟩

set_option maxRecDepth 100000 in
set_option maxHeartbeats 1000000 in
theorem flow_from.calls (A : Option Addr) (c : Nat) (l : List S44) (d : Int) (w : World) (hC : Kd.C k44 w A l.length l) (hc : l.length ≤ c) (hl : l.length < 4611686018427387904) (hs : l.Pairwise fun a b => a.f0 ≤ b.f0) :
    Calls Try.prog 40 #[.slice A l.length c, .int .i64 d] w fun e w' => ∃ A' c', e = .returned (.slice A' (fromL l d).length c') ∧ As2 (∀ W, Kd.C k44 W A l.length l → Kd.C k44 W A' (fromL l d).length (fromL l d)) ∧ (fromL l d).length ≤ c' ∧ As2 (Below w.heap.size w w') := by
  have R0 := As2.mk hC
  have HS := As2.mk hs
  clear hC hs
  go_enter Try.func40, Try.ntmps40
  go_wp2_with fail
  refine (bsf_calls (.int .i64 d) (fun p => cmpI p.f0 d) 52 #[] A c l _ (enters_of Try.func52 (by kernel_rfl) rfl) (fun W x _ => from1_calls x d W) R0.out hl ?_).mono ?_
  · intro a b hab hb
    have : (rd_T44 l a).f0 ≤ (rd_T44 l b).f0 := by
      rw [rd_get l a (by omega), rd_get l b hb]
      rcases Nat.lt_or_ge a b with h | h
      · exact List.pairwise_iff_getElem.1 HS.out a b (by omega) hb h
      · obtain rfl : a = b := by omega
        exact Int.le_refl _
    unfold cmpI
    intro h
    split at h
    · rw [if_pos (by omega)]; decide
    · split at h <;> simp at h
  rintro e w1 ⟨i, fb, rfl, I, hb1⟩
  have B1 := As2.mk hb1
  have R1 := As2.mk (Kd.C_below R0.out (hb1.mono (Nat.le_refl _)))
  have hi := I.out.1
  clear hb1
  go_wp2_with fail
  go_loop [7] (fun s => ∃ k : Nat, s = .int .i64 k ∧ i ≤ k ∧ k ≤ l.length ∧ As2 (∀ t : Nat, i ≤ t → t < k → (rd_T44 l t).f0 = d)) (fun s => l.length - (intOf s).toNat)
  case atStart => exact ⟨i, rfl, Nat.le_refl _, hi, ⟨fun t h1 h2 => absurd h1 (by omega)⟩⟩
  case round =>
    obtain ⟨k, rfl, hik, hk, K⟩ := hrel
    have fin : (k < l.length → (rd_T44 l k).f0 ≠ d) → (l.take k).drop i = fromL l d := fun h4 => fromL_cut l d i k hik hk HS.out
      (fun t ht => by
        have z := I.out.2.1 t ht
        unfold cmpI at z
        split at z
        · assumption
        · split at z <;> simp at z)
      (fun t h1 h2 => by
        have z := I.out.2.2.1 t h1 h2
        unfold cmpI at z
        split at z
        · simp at z
        · omega) K.out h4
    obtain ⟨inf, hinf, hsz⟩ := info44'
    have cut : ∀ W : World, (Instr.slice 24 (.slice A l.length c) (some (.int .i64 (i : Int))) (some (.int .i64 (k : Int))) none).run Try.prog W = .ok (.slice (if c = i then A else A.map (·.add (i * 2))) (k - i) (c - i)) W :=
      fun W => cut_mid (P := Try.prog) 24 44 .i64 .i64 Try.underlying24 hinf 2 hsz A l.length c i k (by omega) (by omega) (by omega) hc W
    have last : (k < l.length → (rd_T44 l k).f0 ≠ d) → ∃ A' c', (Value.slice (if c = i then A else A.map (·.add (i * 2))) (k - i) (c - i)) = .slice A' (fromL l d).length c' ∧ As2 (∀ W, Kd.C k44 W A l.length l → Kd.C k44 W A' (fromL l d).length (fromL l d)) ∧ (fromL l d).length ≤ c' := fun h4 => by
      have z := fun W (R : Kd.C k44 W A l.length l) => Kd.C_mid (lo := i) (hi := k) R hik hk hc
      have e := fin h4
      have hlen : (fromL l d).length = k - i := by rw [← e]; simp; omega
      simp only [e] at z
      exact ⟨_, c - i, by rw [hlen]; rfl, ⟨z⟩, by omega⟩
    clear hinf fin
    generalize (if c = i then A else A.map (·.add (i * 2))) = AA at cut last
    generalize c - i = ci at cut last
    by_cases hlt : k < l.length
    · obtain ⟨ad, rfl, c0, c1⟩ := at_T44 R1.out (k : Int) (by omega) (by omega)
      rw [Int.toNat_natCast] at c0 c1
      generalize hy : rd_T44 l (k : Int) = y at c0 c1
      have Y := As2.mk hy
      clear hy
      obtain ⟨y0, y1⟩ := y
      by_cases hd : y0 = d
      · subst hd
        clear last cut
        go_wp2
        exact ⟨⟨k + 1, by go_num, by omega, by omega, ⟨fun t h1 h2 => by
          rcases Nat.lt_or_ge t k with h | h
          · exact K.out t h1 h
          · obtain rfl : t = k := by omega
            rw [Y.out]⟩⟩, by simp [intOf]; omega⟩
      · have L := As2.mk (last (fun _ => by rw [Y.out]; exact hd))
        clear last
        go_wp2
        go_ret
        obtain ⟨A', c', e1, e2, e3⟩ := L.out
        exact ⟨A', c', congrArg Ending.returned e1, e2, e3, B1⟩
    · have L := As2.mk (last (fun h => absurd h hlt))
      clear last
      go_wp2
      all_goals
        go_ret
        obtain ⟨A', c', e1, e2, e3⟩ := L.out
        exact ⟨A', c', congrArg Ending.returned e1, e2, e3, B1⟩
end Go.Proofs.Ytdbnlmhffbopoaa.Xq
namespace Go.Proofs.Ytdbnlmhffbopoaa.Xq
open Go.RowKit Go.Lib Go.Proofs.YtdbnlmhffbopoaaW.PrintWords

def meets (f g : List S44) : List (Int × Int) := f.flatMap fun x => (fromL g x.f1).map fun y => (x.f0, y.f1)
def compP (f g : List S44) : List (Int × Int) := sortDedup (meets f g)
theorem mem_meets (f g : List S44) (p : Int × Int) : p ∈ meets f g ↔ ∃ x ∈ f, ∃ y ∈ g, y.f0 = x.f1 ∧ p = (x.f0, y.f1) := by
  unfold meets fromL
  simp only [List.mem_flatMap, List.mem_map, List.mem_filter, decide_eq_true_eq]
  constructor
  · rintro ⟨x, hx, y, ⟨hy, e⟩, rfl⟩; exact ⟨x, hx, y, hy, e, rfl⟩
  · rintro ⟨x, hx, y, hy, e, rfl⟩; exact ⟨x, hx, y, ⟨hy, e⟩, rfl⟩
def rowL (a b : List S44) (i k : Nat) : List Int := ((a.take k).drop i).flatMap fun x => (fromL b x.f1).map fun y => y.f1
theorem fromL_len (l : List S44) (d : Int) : (fromL l d).length ≤ l.length := List.length_filter_le _ _
theorem flatMap_len (a b : List S44) : (a.flatMap fun x => (fromL b x.f1).map fun y => y.f1).length ≤ a.length * b.length := by
  induction a with
  | nil => simp
  | cons x t ih =>
    rw [List.flatMap_cons, List.length_append, List.length_map, List.length_cons, Nat.succ_mul]
    have := fromL_len b x.f1
    omega
theorem rowL_len (a b : List S44) (i k : Nat) (h : i ≤ k) : (rowL a b i k).length ≤ (k - i) * b.length := by
  refine Nat.le_trans (flatMap_len _ _) (Nat.mul_le_mul_right _ ?_)
  simp
  omega
theorem rowL_self (a b : List S44) (i : Nat) : rowL a b i i = [] := by
  unfold rowL
  rw [List.drop_eq_nil_of_le (by simp; omega)]
  rfl
theorem rowL_succ (a b : List S44) (i k : Nat) (h : i ≤ k) (hk : k < a.length) : rowL a b i (k + 1) = rowL a b i k ++ (fromL b (a[k]).f1).map fun y => y.f1 := by
  unfold rowL
  rw [List.take_succ_eq_append_getElem hk, List.drop_append_of_le_length (by simp; omega), List.flatMap_append]
  simp
def AscF (a : List S44) : Prop := a.Pairwise fun x y => x.f0 ≤ y.f0
structure OutSpec (a b : List S44) (i : Nat) (out : List S44) : Prop where
  asc : (out.map toP).Pairwise LtP
  mem : ∀ p, p ∈ out ↔ ∃ x ∈ a.take i, ∃ y ∈ b, y.f0 = x.f1 ∧ p = ⟨x.f0, y.f1⟩
  len : out.length ≤ i * b.length
  cut : ∀ x ∈ a.take i, ∀ y ∈ a.drop i, x.f0 < y.f0
theorem OutSpec.nil (a b : List S44) : OutSpec a b 0 [] := ⟨by simp, by simp, by simp, by simp⟩
theorem OutSpec.step {a b : List S44} {i k : Nat} {out : List S44} (h : OutSpec a b i out) (d : Int) (hik : i < k) (hk : k ≤ a.length) (ha : AscF a) (h1 : ∀ t (ht : t < a.length), i ≤ t → t < k → (a[t]).f0 = d) (h2 : ∀ (hk : k < a.length), (a[k]).f0 ≠ d) :
    OutSpec a b k (out ++ (sdI (rowL a b i k)).map fun y => ⟨d, y⟩) := by
  have hmid : ∀ x, x ∈ (a.take k).drop i → x.f0 = d := by
    intro x hx
    obtain ⟨t, ht, rfl⟩ := List.getElem_of_mem hx
    rw [List.length_drop, List.length_take] at ht
    rw [List.getElem_drop, List.getElem_take]
    exact h1 (i + t) (by omega) (by omega) (by omega)
  have htake : a.take k = a.take i ++ (a.take k).drop i := by
    have z := List.take_append_drop i (a.take k)
    rw [List.take_take, Nat.min_eq_left (by omega)] at z
    exact z.symm
  have hdi : ∀ x ∈ a.take i, x.f0 < d := by
    intro x hx
    have hai : a[i]'(by omega) ∈ a.drop i := by
      rw [List.mem_iff_getElem]
      exact ⟨0, by simp; omega, by simp⟩
    have := h.cut x hx _ hai
    rw [h1 i (by omega) (Nat.le_refl _) hik] at this
    exact this
  refine ⟨?_, ?_, ?_, ?_⟩
  · rw [List.map_append, List.pairwise_append]
    refine ⟨h.asc, ?_, ?_⟩
    · rw [List.map_map, List.pairwise_map]
      exact (sdI_sorted _).imp fun hlt => .inr ⟨rfl, hlt⟩
    · intro x hx y hy
      obtain ⟨p, hp, rfl⟩ := List.mem_map.1 hx
      obtain ⟨q, hq, rfl⟩ := List.mem_map.1 hy
      obtain ⟨z, _, rfl⟩ := List.mem_map.1 hq
      obtain ⟨u, hu, v, _, _, rfl⟩ := (h.mem p).1 hp
      exact .inl (hdi u hu)
  · intro p
    rw [List.mem_append, h.mem, List.mem_map]
    have hrow : ∀ z, z ∈ sdI (rowL a b i k) ↔ ∃ x ∈ (a.take k).drop i, ∃ y ∈ b, y.f0 = x.f1 ∧ z = y.f1 := by
      intro z
      rw [mem_sdI]
      unfold rowL fromL
      simp only [List.mem_flatMap, List.mem_map, List.mem_filter, decide_eq_true_eq]
      constructor
      · rintro ⟨x, hx, y, ⟨hy, e⟩, rfl⟩; exact ⟨x, hx, y, hy, e, rfl⟩
      · rintro ⟨x, hx, y, hy, e, rfl⟩; exact ⟨x, hx, y, ⟨hy, e⟩, rfl⟩
    rw [htake]
    simp only [List.mem_append]
    constructor
    · rintro (⟨x, hx, y, hy, e, rfl⟩ | ⟨z, hz, rfl⟩)
      · exact ⟨x, .inl hx, y, hy, e, rfl⟩
      · obtain ⟨x, hx, y, hy, e, rfl⟩ := (hrow z).1 hz
        exact ⟨x, .inr hx, y, hy, e, by rw [hmid x hx]⟩
    · rintro ⟨x, hx | hx, y, hy, e, rfl⟩
      · exact .inl ⟨x, hx, y, hy, e, rfl⟩
      · exact .inr ⟨y.f1, (hrow _).2 ⟨x, hx, y, hy, e, rfl⟩, by rw [hmid x hx]⟩
  · rw [List.length_append, List.length_map]
    have e1 := h.len
    have e2 := Nat.le_trans (sdI_len _) (rowL_len a b i k (by omega))
    have e3 : i * b.length + (k - i) * b.length = k * b.length := by rw [← Nat.add_mul]; congr 1; omega
    omega
  · intro x hx y hy
    obtain ⟨t, ht, rfl⟩ := List.getElem_of_mem hy
    rw [List.length_drop] at ht
    rw [List.getElem_drop]
    have hx' : x.f0 ≤ d := by
      rw [htake] at hx
      rcases List.mem_append.1 hx with hx | hx
      · exact Int.le_of_lt (hdi x hx)
      · rw [hmid x hx]; exact Int.le_refl _
    have q : d < (a[k]'(by omega)).f0 := by
      have z := List.pairwise_iff_getElem.1 ha i k (by omega) (by omega) hik
      rw [h1 i (by omega) (Nat.le_refl _) hik] at z
      have := h2 (by omega)
      omega
    have q2 : (a[k]'(by omega)).f0 ≤ (a[k + t]'(by omega)).f0 := by
      rcases Nat.eq_zero_or_pos t with rfl | hp
      · exact Int.le_refl _
      · exact List.pairwise_iff_getElem.1 ha k (k + t) (by omega) (by omega) (by omega)
    omega
theorem map_ofP_toP (l : List S44) : (l.map toP).map ofP = l := by
  rw [List.map_map, show ofP ∘ toP = id from rfl, List.map_id]
theorem OutSpec.done {f g out : List S44} {a b : List S44} (h : OutSpec a b a.length out) (ha : ∀ x, x ∈ a ↔ x ∈ f) (hb : ∀ x, x ∈ b ↔ x ∈ g) : (compP f g).map ofP = out := by
  have : compP f g = out.map toP := sortDedup_eq h.asc fun p => by
    rw [mem_meets, List.mem_map]
    have hm := h.mem
    rw [List.take_length] at hm
    constructor
    · rintro ⟨q, hq, rfl⟩
      obtain ⟨x, hx, y, hy, e, rfl⟩ := (hm q).1 hq
      exact ⟨x, (ha x).1 hx, y, (hb y).1 hy, e, rfl⟩
    · rintro ⟨x, hx, y, hy, e, rfl⟩
      exact ⟨⟨x.f0, y.f1⟩, (hm _).2 ⟨x, (ha x).2 hx, y, (hb y).2 hy, e, rfl⟩, rfl⟩
  rw [this, map_ofP_toP]
theorem sorted_ascF (l : List (Int × Int)) : AscF ((sortDedup l).map ofP) := by
  unfold AscF
  rw [List.pairwise_map]
  exact (sortDedup_sorted l).imp fun h => by
    rcases h with h | h
    · exact Int.le_of_lt h
    · exact Int.le_of_eq h.1
theorem mem_sorted_ofP (l : List S44) (x : S44) : x ∈ (sortDedup (l.map toP)).map ofP ↔ x ∈ l := by
  rw [List.mem_map]
  constructor
  · rintro ⟨p, hp, rfl⟩
    obtain ⟨q, hq, rfl⟩ := List.mem_map.1 ((mem_sortDedup _ _).1 hp)
    exact hq
  · intro h
    exact ⟨toP x, (mem_sortDedup _ _).2 (List.mem_map.2 ⟨x, h, rfl⟩), rfl⟩
end Go.Proofs.Ytdbnlmhffbopoaa.Xq
namespace Go.Proofs.Ytdbnlmhffbopoaa.Xq
open Go.RowKit Go.Proofs.YtdbnlmhffbopoaaW.PrintWords Go.Proofs.YtdbnlmhffbopoaaW.PrintLast Go.Proofs.Ytdbnlmhffbopoaa.Gv

def flow_Compose.f (f g : List S44) : Option (List S44) := if f.length ≤ 65536 ∧ g.length ≤ 65536 then some ((compP f g).map ofP) else none
theorem sortDedup_len (l : List (Int × Int)) : (sortDedup l).length ≤ l.length := by
  unfold sortDedup Lib.compactUpTo
  rw [List.length_map]
  refine Nat.le_trans (List.length_filter_le _ _) ?_
  rw [List.length_range, srtP_size]
  simp
theorem keep_other {α β : Type} {d : Kd α} {d' : Kd β} {e e' base base' : Nat} {ok ok' : Nat → Prop} {W w1 : World} {v u : Value} {xs : List α} {ys : List β} (h : d.R e W base ok v xs) (hE : d.E = []) (h' : d'.R e' W base' ok' u ys) (hne : e ≠ e') (hg : W.grownBy w1 u.ownBlock) : d.R e w1 base ok v xs :=
  Kd.R_grown2 h hE hg fun k hk => by
    obtain ⟨_, inner, ho, _⟩ := h'
    obtain ⟨cells, hc⟩ := own_typed ho k hk
    exact Kd.R_ne h hc hne
theorem rowb {α : Type} {d : Kd α} {e base : Nat} {ok : Nat → Prop} {W : World} {v : Value} {xs : List α} (h : d.R e W base ok v xs) : ∀ k, v.ownBlock = some k → base ≤ k := by
  obtain ⟨_, inner, ho, _⟩ := h
  exact fun k hk => own_base ho k hk
theorem gvI3 : (Try.prog.info? 3).map (fun i => (i.zero, i.size, i.bytes)) = some (some (.int .i64 0), 1, 8) := by kernel_rfl

theorem gvI44 : (Try.prog.info? 44).map (fun i => (i.zero, i.size, i.bytes)) = some (some (.agg #[(.int .i64 0), (.int .i64 0)]), 2, 16) := zero44
set_option maxRecDepth 100000 in
set_option maxHeartbeats 4000000 in
theorem flow_Compose.calls (A0 : Option Addr) (c0 : Nat) (l0 : List S44) (A1 : Option Addr) (c1 : Nat) (l1 : List S44) (r : List S44) (w : World)
    (hr0 : Kd.C k44 w A0 l0.length l0) (hc0 : l0.length ≤ c0) (hr1 : Kd.C k44 w A1 l1.length l1) (hc1 : l1.length ≤ c1) (h : flow_Compose.f l0 l1 = some r) :
    Calls Try.prog 21 #[.slice A0 l0.length c0, .slice A1 l1.length c1] w fun e w' => ∃ v0_ : Value, e = .returned v0_ ∧ Kd.R k44 44 w' w.heap.size (fun _ => True) v0_ r ∧ Below w.heap.size w w' := by
  unfold flow_Compose.f at h
  by_cases hlen : l0.length ≤ 65536 ∧ l1.length ≤ 65536
  case neg => rw [if_neg hlen] at h; cases h
  rw [if_pos hlen] at h
  obtain ⟨hl0, hl1⟩ := hlen
  have HR := As2.mk (Option.some.inj h)
  have R0 := As2.mk hr0
  have R1 := As2.mk hr1
  clear h hr0 hr1
  go_enter Try.func21, Try.ntmps21
  go_wp2_with fail
  refine (flow_sorted.calls A0 c0 l0 _ _ R0.out hc0 (by unfold flow_sorted.f; rw [if_pos (by omega)])).mono ?_
  rintro e w1 ⟨va, rfl, ga, b1⟩
  have GA := As2.mk ga
  have B1 := As2.mk b1
  clear ga b1
  go_wp2_with fail
  refine (flow_sorted.calls A1 c1 l1 _ _ (Kd.C_below R1.out B1.out) hc1 (by unfold flow_sorted.f; rw [if_pos (by omega)])).mono ?_
  rintro e w2 ⟨vb, rfl, gb, b2⟩
  obtain ⟨A5, c5, rfl, hc5, hC5⟩ := Kd.R_reads GA.out
  obtain ⟨A6, c6, rfl, hc6, hC6⟩ := Kd.R_reads gb
  have CA := As2.mk (Kd.C_below hC5 b2)
  have CB := As2.mk hC6
  have B2 := As2.mk (below_step B1.out b2)
  have SA := As2.mk (sorted_ascF (l0.map toP))
  have SB := As2.mk (sorted_ascF (l1.map toP))
  have MA := As2.mk (mem_sorted_ofP l0)
  have MB := As2.mk (mem_sorted_ofP l1)
  have la : ((sortDedup (l0.map toP)).map ofP).length ≤ 65536 := by rw [List.length_map]; have := sortDedup_len (l0.map toP); rw [List.length_map] at this; omega
  have lb : ((sortDedup (l1.map toP)).map ofP).length ≤ 65536 := by rw [List.length_map]; have := sortDedup_len (l1.map toP); rw [List.length_map] at this; omega
  clear hC5 hC6 b2 gb GA B1
  generalize (sortDedup (l0.map toP)).map ofP = a at CA SA MA la hc5
  generalize (sortDedup (l1.map toP)).map ofP = b at CB SB MB lb hc6
  go_wp2_with fail
  go_loopw [7, 8] (fun v i wr => ∃ (k : Nat) (out : List S44), i = .int .i64 k ∧ k ≤ a.length ∧ As2 (OutSpec a b k out) ∧ As2 (Kd.R k44 44 wr w2.heap.size (fun _ => True) v out) ∧ As2 (Below w2.heap.size w2 wr)) (fun _ i _ => a.length - (intOf i).toNat)
  case atStart => exact ⟨0, [], rfl, by omega, ⟨OutSpec.nil a b⟩, ⟨Kd.R_nil _ _ _ _ _⟩, ⟨Below.refl _ _⟩⟩
  case round =>
    obtain ⟨i, out, rfl, hi, OS, E, EB⟩ := hrel
    by_cases hlt : i < a.length
    · go_wp2_with fail
      obtain ⟨wo, rfl⟩ : ∃ wo : World, wo = wr := ⟨_, rfl⟩
      go_loopw [9, 10] (fun v k wr => ∃ (j : Nat) (row : List Int), k = .int .i64 j ∧ i ≤ j ∧ j ≤ a.length ∧ As2 (row = rowL a b i j) ∧ As2 (∀ t : Nat, i ≤ t → t < j → (rd_T44 a t).f0 = (rd_T44 a i).f0) ∧ As2 (Kd.R kI 3 wr w2.heap.size (fun _ => True) v row) ∧ As2 (Kd.R k44 44 wr w2.heap.size (fun _ => True) u7 out) ∧ As2 (Below w2.heap.size w2 wr)) (fun _ k _ => a.length - (intOf k).toNat)
      case atStart => exact ⟨i, [], rfl, Nat.le_refl _, by omega, ⟨(rowL_self a b i).symm⟩, ⟨fun t h1 h2 => absurd h1 (by omega)⟩, ⟨Kd.R_nil _ _ _ _ _⟩, E, EB⟩
      case round =>
        clear E EB
        obtain ⟨k, row, rfl, hik, hk, RW, SM, F, E, EB⟩ := hrel
        by_cases hkl : k < a.length
        · have CA1 := Kd.C_below CA.out EB.out
          obtain ⟨ad, rfl, p0, p1⟩ := at_T44 CA1 (k : Int) (by omega) (by omega)
          obtain ⟨ad', hadd, q0, q1⟩ := at_T44 CA1 (i : Int) (by omega) (by omega)
          obtain rfl : ad = ad' := Option.some.inj hadd
          rw [Int.toNat_natCast] at p0 p1 q0 q1
          clear CA1 hadd
          obtain ⟨x, hx⟩ : ∃ x, rd_T44 a k = x := ⟨_, rfl⟩
          obtain ⟨y, hy⟩ : ∃ y, rd_T44 a i = y := ⟨_, rfl⟩
          rw [hx] at p0 p1
          rw [hy] at q0 q1
          rw [hy] at SM
          have HX := As2.mk hx
          have HY := As2.mk hy
          clear hx hy
          obtain ⟨x0, x1⟩ := x
          obtain ⟨y0, y1⟩ := y
          by_cases hd : x0 = y0
          · subst hd
            go_wp2_with fail
            go_quiet (fail)
            go_wp2_with fail
            refine (flow_from.calls A6 c6 b x1 _ (Kd.C_drewN (Kd.C_below CB.out EB.out) _) hc6 (by omega) SB.out).mono ?_
            rintro e w3 ⟨A49, c49, rfl, CF, hc49, b3⟩
            have E3 := As2.mk (Kd.R_below (Kd.R_drewN E.out _) b3.out)
            have F3 := As2.mk (Kd.R_below (Kd.R_drewN F.out _) b3.out)
            have B3 := As2.mk (below_step (pw_below_drewN EB.out _) b3.out)
            have LF : (fromL b x1).length ≤ 65536 := Nat.le_trans (fromL_len b x1) lb
            have LR : row.length ≤ 4294967296 := by
              rw [RW.out]
              refine Nat.le_trans (rowL_len a b i k hik) (Nat.le_trans (Nat.mul_le_mul (show k - i ≤ 65536 by omega) lb) (by decide))
            have RS := As2.mk (rowL_succ a b i k hik hkl)
            rw [show a[k] = (⟨x0, x1⟩ : S44) by rw [← HX.out, rd_get a k hkl]] at RS
            clear E F EB b3
            generalize fromL b x1 = fl at CF hc49 LF RS
            go_wp2_with fail
            obtain ⟨wq, rfl⟩ : ∃ wq : World, wq = wr := ⟨_, rfl⟩
            go_loopw [9, 51] (fun v s wi => ∃ j : Nat, s = .int .i64 j ∧ j ≤ fl.length ∧ As2 (Kd.R kI 3 wi w2.heap.size (fun _ => True) v (row ++ (fl.take j).map fun y => y.f1)) ∧ As2 (Kd.R k44 44 wi w2.heap.size (fun _ => True) u7 out) ∧ As2 (Below w2.heap.size w2 wi)) (fun _ s _ => fl.length - (intOf s).toNat)
            case atStart => exact ⟨0, rfl, by omega, ⟨by rw [List.take_zero, List.map_nil, List.append_nil]; exact F3.out⟩, E3, B3⟩
            case round =>
              clear E3 F3 B3
              obtain ⟨j, rfl, hj, AO, AK, EB⟩ := hrel
              by_cases hjl : j < fl.length
              · obtain ⟨af, rfl, t0, t1⟩ := at_T44 (CF.out _ (Kd.C_below CB.out EB.out)) (j : Int) (by omega) (by omega)
                rw [Int.toNat_natCast] at t0 t1
                have ST := As2.mk (show (fl.take (j + 1)).map (fun y => y.f1) = (fl.take j).map (fun y => y.f1) ++ [(rd_T44 fl j).f1] by rw [List.take_succ_eq_append_getElem hjl, List.map_append, rd_get fl j hjl]; rfl)
                generalize rd_T44 fl (j : Int) = y at t0 t1 ST
                obtain ⟨y0, z⟩ := y
                obtain ⟨xs, hxs⟩ : ∃ xs, xs = row ++ (fl.take j).map fun y => y.f1 := ⟨_, rfl⟩
                have hxl : xs.length ≤ 4294967296 + 65536 := by rw [hxs]; simp; omega
                rw [← hxs] at AO
                have HXS := As2.mk hxs
                clear hxs
                go_wp2_with ((with_reducible refine gate_builtin (b := .append) (xs := #[.tmp 55, .tmp 58]) rfl ?_); at_builtin; go_must (refine Kd.R_append kI (w0 := w2) w2.heap.size rfl (.tmp 55) (.tmp 58) 22 3 (.int .i64 0) 8 rfl Try.underlying22 gvI3 rfl (by decide) (by omega) u9 xs z [.int .i64 z] (fun _ => True) (fun _ => False) rfl ?aX ?aP (fun _ hk => hk.elim) (fun _ _ => trivial) ?aO ?aB ?aS ?aL ?_); (case aX => go_must (first | exact rfl | exact congrArg (fun z => Value.slice (some ⟨z, 0, none⟩) 1 1) (by simp))); (case aP => exact rfl); (case aB => go_must (exact (by repeat (first | (with_reducible first | exact EB.out | apply below_alloc | apply pw_below_drewN | apply below_drew1) | exact EB.out)))); (case aO => go_must (exact (by (with_reducible repeat (first | apply Kd.R_alloc | apply Kd.R_drewN | apply Kd.R_drew)); exact AO.out))); (case aS => go_must (exact below_size (by repeat (first | (with_reducible first | exact EB.out | apply below_alloc | apply pw_below_drewN | apply below_drew1) | exact EB.out)))); (case aL => omega); intro v1 w3 ho hb hg hat; have F9 := As2.mk ho; have FB := As2.mk hb; have FK := As2.mk (keep_other (by (with_reducible repeat (first | apply Kd.R_alloc | apply Kd.R_drewN | apply Kd.R_drew)); exact AK.out) rfl (by (with_reducible repeat (first | apply Kd.R_alloc | apply Kd.R_drewN | apply Kd.R_drew)); exact AO.out) (by decide) hg); clear ho hb hg hat)
                exact ⟨⟨j + 1, by go_num, by omega, ⟨by rw [ST.out, ← List.append_assoc, ← HXS.out]; exact F9.out⟩, FK, FB⟩, by simp [intOf]; omega⟩
              · obtain rfl : j = fl.length := by omega
                rw [List.take_length] at AO
                go_wp2_with fail
                exact ⟨⟨k + 1, row ++ fl.map fun y => y.f1, by go_num, by omega, by omega, ⟨by rw [RS.out, ← RW.out]⟩, ⟨fun t h1 h2 => by
                  rcases Nat.lt_or_ge t k with h | h
                  · rw [HY.out]; exact SM.out t h1 h
                  · obtain rfl : t = k := by omega
                    rw [HX.out, HY.out]⟩, AO, AK, EB⟩, by simp [intOf]; omega⟩
          · have NE : ∀ h : k < a.length, (rd_T44 a k).f0 ≠ y0 := fun _ => by rw [HX.out]; exact hd
            have LR : row.length ≤ 4294967296 := by
              rw [RW.out]
              refine Nat.le_trans (rowL_len a b i k hik) (Nat.le_trans (Nat.mul_le_mul (show k - i ≤ 65536 by omega) lb) (by decide))
            have hik' : i < k := by
              rcases Nat.lt_or_ge i k with h | h
              · exact h
              · obtain rfl : i = k := by omega
                exact absurd (NE hlt) (by rw [rd_get a i hlt, HY.out] at *; simp)
            have NX := As2.mk (OS.out.step y0 hik' hk SA.out (fun t ht h1 h2 => by rw [← rd_get a t ht, SM.out t h1 h2]) (fun h => by rw [← rd_get a k h]; exact NE h))
            rw [← RW.out] at NX
            go_wp2_with fail
            go_quiet (fail)
            go_wp2_with fail
            refine (sortI_calls u9 row _ _ (Kd.R_drewN F.out _) (by omega)).mono ?_
            rintro e w4 ⟨rfl, g7, gr⟩
            have E4 := As2.mk (keep_other (Kd.R_drewN E.out _) rfl (Kd.R_drewN F.out _) (by decide) gr)
            have B4 := As2.mk ((pw_below_drewN EB.out _).grown gr (below_size (pw_below_drewN EB.out _)) (rowb F.out))
            have F4 := As2.mk g7
            clear g7 gr E F EB
            go_wp2_with fail
            refine (compactI_calls u9 _ _ _ F4.out (by rw [sortI_len]; omega)).mono ?_
            rintro e w5 ⟨v64, rfl, g8, gr, _⟩
            have E5 := As2.mk (keep_other E4.out rfl F4.out (by decide) gr)
            have B5 := As2.mk (B4.out.grown gr B4.out.size (rowb F4.out))
            have LS := sdI_len row
            obtain ⟨rr, hrr⟩ : ∃ rr, rr = sdI row := ⟨_, rfl⟩
            rw [show Lib.compact (sortI row) = rr from hrr.symm] at g8
            rw [← hrr] at LS
            have HRR := As2.mk hrr
            rw [← HRR.out] at NX
            obtain ⟨A64, c64, rfl, hc64, _⟩ := Kd.R_reads g8
            have F5 := As2.mk g8
            have OL := OS.out.len
            have OL2 : i * b.length ≤ 4294967296 := Nat.le_trans (Nat.mul_le_mul (show i ≤ 65536 by omega) lb) (by decide)
            clear g8 gr hrr E4 F4 B4
            go_wp2_with fail
            obtain ⟨wq, rfl⟩ : ∃ wq : World, wq = wr := ⟨_, rfl⟩
            go_loopw [7, 66] (fun v s wi => ∃ j : Nat, s = .int .i64 j ∧ j ≤ rr.length ∧ As2 (Kd.R k44 44 wi w2.heap.size (fun _ => True) v (out ++ (rr.take j).map fun z => (⟨y0, z⟩ : S44))) ∧ As2 (Kd.R kI 3 wi w2.heap.size (fun _ => True) (.slice A64 rr.length c64) rr) ∧ As2 (Below w2.heap.size w2 wi)) (fun _ s _ => rr.length - (intOf s).toNat)
            case atStart => exact ⟨0, rfl, by omega, ⟨by rw [List.take_zero, List.map_nil, List.append_nil]; exact E5.out⟩, F5, B5⟩
            case round =>
              clear E5 F5 B5
              obtain ⟨j, rfl, hj, AO, AK, EB⟩ := hrel
              by_cases hjl : j < rr.length
              · obtain ⟨af, rfl, t0⟩ := Kd.at_int (Kd.R_reads' AK.out).2.2 (j : Int) (by omega) (by omega)
                obtain ⟨ad', hadd, q0, q1⟩ := at_T44 (Kd.C_below CA.out EB.out) (i : Int) (by omega) (by omega)
                obtain rfl : ad = ad' := Option.some.inj hadd
                rw [Int.toNat_natCast] at t0 q0 q1
                rw [HY.out] at q0 q1
                clear hadd
                have ST := As2.mk (show (rr.take (j + 1)).map (fun z => (⟨y0, z⟩ : S44)) = (rr.take j).map (fun z => (⟨y0, z⟩ : S44)) ++ [⟨y0, YtdbnlmhffbopoaaW.PrintWords.rd rr j⟩] by rw [List.take_succ_eq_append_getElem hjl, List.map_append, show YtdbnlmhffbopoaaW.PrintWords.rd rr j = rr[j] by simp [YtdbnlmhffbopoaaW.PrintWords.rd, hjl]]; rfl)
                generalize YtdbnlmhffbopoaaW.PrintWords.rd rr (j : Int) = z at t0 ST
                obtain ⟨xs, hxs⟩ : ∃ xs, xs = out ++ (rr.take j).map fun z => (⟨y0, z⟩ : S44) := ⟨_, rfl⟩
                have hxl : xs.length ≤ 4294967296 + 4294967296 := by rw [hxs]; simp; omega
                rw [← hxs] at AO
                have HXS := As2.mk hxs
                clear hxs
                go_wp2_with ((with_reducible refine gate_builtin (b := .append) (xs := #[.tmp 70, .tmp 78]) rfl ?_); at_builtin; go_must (refine Kd.R_append k44 (w0 := w2) w2.heap.size rfl (.tmp 70) (.tmp 78) 24 44 (.agg #[(.int .i64 0), (.int .i64 0)]) 16 rfl Try.underlying24 gvI44 rfl (by decide) (by omega) u7 xs (⟨y0, z⟩ : S44) [.int .i64 y0, .int .i64 z] (fun _ => True) (fun _ => False) rfl ?aX ?aP (fun _ hk => hk.elim) (fun _ _ => trivial) ?aO ?aB ?aS ?aL ?_); (case aX => go_must (first | exact rfl | exact congrArg (fun z => Value.slice (some ⟨z, 0, none⟩) 1 1) (by simp))); (case aP => exact k44_mkM _ _ _ (⟨y0, z⟩ : S44)); (case aB => go_must (exact (by repeat (first | (with_reducible first | exact EB.out | apply below_alloc | apply pw_below_drewN | apply below_drew1) | exact EB.out)))); (case aO => go_must (exact (by (with_reducible repeat (first | apply Kd.R_alloc | apply Kd.R_drewN | apply Kd.R_drew)); exact AO.out))); (case aS => go_must (exact below_size (by repeat (first | (with_reducible first | exact EB.out | apply below_alloc | apply pw_below_drewN | apply below_drew1) | exact EB.out)))); (case aL => omega); intro v1 w3 ho hb hg hat; have F9 := As2.mk ho; have FB := As2.mk hb; have FK := As2.mk (keep_other (by (with_reducible repeat (first | apply Kd.R_alloc | apply Kd.R_drewN | apply Kd.R_drew)); exact AK.out) rfl (by (with_reducible repeat (first | apply Kd.R_alloc | apply Kd.R_drewN | apply Kd.R_drew)); exact AO.out) (by decide) hg); clear ho hb hg hat)
                exact ⟨⟨j + 1, by go_num, by omega, ⟨by rw [ST.out, ← List.append_assoc, ← HXS.out]; exact F9.out⟩, FK, FB⟩, by simp [intOf]; omega⟩
              · obtain rfl : j = rr.length := by omega
                rw [List.take_length] at AO
                go_wp2_with fail
                exact ⟨⟨k, _, by go_num, hk, NX, AO, EB⟩, by simp [intOf]; omega⟩
        · obtain ⟨ad, rfl, q0, q1⟩ := at_T44 (Kd.C_below CA.out EB.out) (i : Int) (by omega) (by omega)
          rw [Int.toNat_natCast] at q0 q1
          obtain ⟨y, hy⟩ : ∃ y, rd_T44 a i = y := ⟨_, rfl⟩
          rw [hy] at q0 q1
          rw [hy] at SM
          have HY := As2.mk hy
          clear hy
          obtain ⟨y0, y1⟩ := y
          have NE : ∀ h : k < a.length, (rd_T44 a k).f0 ≠ y0 := fun h => absurd h hkl
          have LR : row.length ≤ 4294967296 := by
            rw [RW.out]
            refine Nat.le_trans (rowL_len a b i k hik) (Nat.le_trans (Nat.mul_le_mul (show k - i ≤ 65536 by omega) lb) (by decide))
          have hik' : i < k := by
            rcases Nat.lt_or_ge i k with h | h
            · exact h
            · obtain rfl : i = k := by omega
              exact absurd (NE hlt) (by rw [rd_get a i hlt, HY.out] at *; simp)
          have NX := As2.mk (OS.out.step y0 hik' hk SA.out (fun t ht h1 h2 => by rw [← rd_get a t ht, SM.out t h1 h2]) (fun h => by rw [← rd_get a k h]; exact NE h))
          rw [← RW.out] at NX
          go_wp2_with fail
          go_quiet (fail)
          go_wp2_with fail
          refine (sortI_calls u9 row _ _ (Kd.R_drewN F.out _) (by omega)).mono ?_
          rintro e w4 ⟨rfl, g7, gr⟩
          have E4 := As2.mk (keep_other (Kd.R_drewN E.out _) rfl (Kd.R_drewN F.out _) (by decide) gr)
          have B4 := As2.mk ((pw_below_drewN EB.out _).grown gr (below_size (pw_below_drewN EB.out _)) (rowb F.out))
          have F4 := As2.mk g7
          clear g7 gr E F EB
          go_wp2_with fail
          refine (compactI_calls u9 _ _ _ F4.out (by rw [sortI_len]; omega)).mono ?_
          rintro e w5 ⟨v64, rfl, g8, gr, _⟩
          have E5 := As2.mk (keep_other E4.out rfl F4.out (by decide) gr)
          have B5 := As2.mk (B4.out.grown gr B4.out.size (rowb F4.out))
          have LS := sdI_len row
          obtain ⟨rr, hrr⟩ : ∃ rr, rr = sdI row := ⟨_, rfl⟩
          rw [show Lib.compact (sortI row) = rr from hrr.symm] at g8
          rw [← hrr] at LS
          have HRR := As2.mk hrr
          rw [← HRR.out] at NX
          obtain ⟨A64, c64, rfl, hc64, _⟩ := Kd.R_reads g8
          have F5 := As2.mk g8
          have OL := OS.out.len
          have OL2 : i * b.length ≤ 4294967296 := Nat.le_trans (Nat.mul_le_mul (show i ≤ 65536 by omega) lb) (by decide)
          clear g8 gr hrr E4 F4 B4
          go_wp2_with fail
          obtain ⟨wq, rfl⟩ : ∃ wq : World, wq = wr := ⟨_, rfl⟩
          go_loopw [7, 66] (fun v s wi => ∃ j : Nat, s = .int .i64 j ∧ j ≤ rr.length ∧ As2 (Kd.R k44 44 wi w2.heap.size (fun _ => True) v (out ++ (rr.take j).map fun z => (⟨y0, z⟩ : S44))) ∧ As2 (Kd.R kI 3 wi w2.heap.size (fun _ => True) (.slice A64 rr.length c64) rr) ∧ As2 (Below w2.heap.size w2 wi)) (fun _ s _ => rr.length - (intOf s).toNat)
          case atStart => exact ⟨0, rfl, by omega, ⟨by rw [List.take_zero, List.map_nil, List.append_nil]; exact E5.out⟩, F5, B5⟩
          case round =>
            clear E5 F5 B5
            obtain ⟨j, rfl, hj, AO, AK, EB⟩ := hrel
            by_cases hjl : j < rr.length
            · obtain ⟨af, rfl, t0⟩ := Kd.at_int (Kd.R_reads' AK.out).2.2 (j : Int) (by omega) (by omega)
              obtain ⟨ad', hadd, q0, q1⟩ := at_T44 (Kd.C_below CA.out EB.out) (i : Int) (by omega) (by omega)
              obtain rfl : ad = ad' := Option.some.inj hadd
              rw [Int.toNat_natCast] at t0 q0 q1
              rw [HY.out] at q0 q1
              clear hadd
              have ST := As2.mk (show (rr.take (j + 1)).map (fun z => (⟨y0, z⟩ : S44)) = (rr.take j).map (fun z => (⟨y0, z⟩ : S44)) ++ [⟨y0, YtdbnlmhffbopoaaW.PrintWords.rd rr j⟩] by rw [List.take_succ_eq_append_getElem hjl, List.map_append, show YtdbnlmhffbopoaaW.PrintWords.rd rr j = rr[j] by simp [YtdbnlmhffbopoaaW.PrintWords.rd, hjl]]; rfl)
              generalize YtdbnlmhffbopoaaW.PrintWords.rd rr (j : Int) = z at t0 ST
              obtain ⟨xs, hxs⟩ : ∃ xs, xs = out ++ (rr.take j).map fun z => (⟨y0, z⟩ : S44) := ⟨_, rfl⟩
              have hxl : xs.length ≤ 4294967296 + 4294967296 := by rw [hxs]; simp; omega
              rw [← hxs] at AO
              have HXS := As2.mk hxs
              clear hxs
              go_wp2_with ((with_reducible refine gate_builtin (b := .append) (xs := #[.tmp 70, .tmp 78]) rfl ?_); at_builtin; go_must (refine Kd.R_append k44 (w0 := w2) w2.heap.size rfl (.tmp 70) (.tmp 78) 24 44 (.agg #[(.int .i64 0), (.int .i64 0)]) 16 rfl Try.underlying24 gvI44 rfl (by decide) (by omega) u7 xs (⟨y0, z⟩ : S44) [.int .i64 y0, .int .i64 z] (fun _ => True) (fun _ => False) rfl ?aX ?aP (fun _ hk => hk.elim) (fun _ _ => trivial) ?aO ?aB ?aS ?aL ?_); (case aX => go_must (first | exact rfl | exact congrArg (fun z => Value.slice (some ⟨z, 0, none⟩) 1 1) (by simp))); (case aP => exact k44_mkM _ _ _ (⟨y0, z⟩ : S44)); (case aB => go_must (exact (by repeat (first | (with_reducible first | exact EB.out | apply below_alloc | apply pw_below_drewN | apply below_drew1) | exact EB.out)))); (case aO => go_must (exact (by (with_reducible repeat (first | apply Kd.R_alloc | apply Kd.R_drewN | apply Kd.R_drew)); exact AO.out))); (case aS => go_must (exact below_size (by repeat (first | (with_reducible first | exact EB.out | apply below_alloc | apply pw_below_drewN | apply below_drew1) | exact EB.out)))); (case aL => omega); intro v1 w3 ho hb hg hat; have F9 := As2.mk ho; have FB := As2.mk hb; have FK := As2.mk (keep_other (by (with_reducible repeat (first | apply Kd.R_alloc | apply Kd.R_drewN | apply Kd.R_drew)); exact AK.out) rfl (by (with_reducible repeat (first | apply Kd.R_alloc | apply Kd.R_drewN | apply Kd.R_drew)); exact AO.out) (by decide) hg); clear ho hb hg hat)
              exact ⟨⟨j + 1, by go_num, by omega, ⟨by rw [ST.out, ← List.append_assoc, ← HXS.out]; exact F9.out⟩, FK, FB⟩, by simp [intOf]; omega⟩
            · obtain rfl : j = rr.length := by omega
              rw [List.take_length] at AO
              go_wp2_with fail
              exact ⟨⟨k, _, by go_num, hk, NX, AO, EB⟩, by simp [intOf]; omega⟩
    · obtain rfl : i = a.length := by omega
      have OE := OS.out.done MA.out MB.out
      go_wp2_with fail
      go_ret
      exact ⟨_, rfl, by rw [← HR.out, OE]; exact Kd.R_lower E.out B2.out.size, B2.out.trans (EB.out.mono B2.out.size)⟩
end Go.Proofs.Ytdbnlmhffbopoaa.Xq
