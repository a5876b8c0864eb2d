/- Joined by a program out of this work's texts and the print's (what the law needs of them): GvQ1, GvQ2, GvP2, GvP3, GvQ3, GvP4, GvP5, GvP6, LawGraphOrder. -/
import Derived.Test.YtfgbkklhjocmjaaDoorKf4
import Derived.Test.YtfgbkklhjocmjaaDoorTie
import Derived.Test.YtfgbkklhjocmjaaDoorCards
import Derived.WalkKit
import Derived.ProofKit
import Derived.OpenShut
import Derived.ShutString
import Derived.ChangeOld
import Derived.Below
import Derived.SizedLaws
import Derived.SevenTiedAt
set_option linter.unusedVariables false
set_option linter.unusedSimpArgs false
namespace Go.Proofs.YtfgbkklhjocmjaaDoor.Xq
open Go.RowKit Go.Shelf Go.Proofs.YtfgbkklhjocmjaaDoorW.PrintWords Go.Proofs.YtfgbkklhjocmjaaDoorW.PrintLast Go.Proofs.YtfgbkklhjocmjaaDoor.Gv
theorem mem_succL {l : List S53} {v w : Int} : w ∈ succL l v ↔ (⟨v, w⟩ : S53) ∈ l := by
  unfold succL
  rw [List.mem_map]
  constructor
  · rintro ⟨x, hx, rfl⟩
    rw [List.mem_filter] at hx
    obtain ⟨h1, h2⟩ := hx
    have h2 : x.f0 = v := by simpa using h2
    subst h2
    exact h1
  · intro h
    exact ⟨_, List.mem_filter.2 ⟨h, by simp⟩, rfl⟩
inductive Way (l : List S53) : Nat → Int → Int → Prop
  | nil (v : Int) : Way l 0 v v
  | snoc {k : Nat} {v w x : Int} : Way l k v w → x ∈ succL l w → Way l (k + 1) v x
def Rch (l : List S53) (v w : Int) : Prop := ∃ k, Way l k v w
theorem Rch.refl (l : List S53) (v : Int) : Rch l v v := ⟨0, .nil v⟩
theorem Rch.step {l : List S53} {v w x : Int} (h : Rch l v w) (hx : x ∈ succL l w) : Rch l v x := h.elim fun k hk => ⟨k + 1, hk.snoc hx⟩
theorem Way.trans {l : List S53} {j : Nat} {u v : Int} (h : Way l j u v) : ∀ {k : Nat} {w : Int}, Way l k v w → Way l (j + k) u w
  | _, _, .nil _ => h
  | _, _, .snoc h1 hx => .snoc (h.trans h1) hx
theorem Rch.trans {l : List S53} {u v w : Int} (h : Rch l u v) (k : Rch l v w) : Rch l u w := by
  obtain ⟨a, ha⟩ := h
  obtain ⟨b, hb⟩ := k
  exact ⟨a + b, ha.trans hb⟩
theorem Rch.closed {l : List S53} {P : Int → Prop} (hP : ∀ v, P v → ∀ w ∈ succL l v, P w) {v w : Int} (h : Rch l v w) (hv : P v) : P w := by
  obtain ⟨k, hk⟩ := h
  induction hk with
  | nil => exact hv
  | snoc _ hx ih => exact hP _ (ih hv) _ hx
theorem Way.cons {l : List S53} {u v : Int} (hx : v ∈ succL l u) {k : Nat} {w : Int} (h : Way l k v w) : Way l (k + 1) u w := by
  have := (Way.snoc (Way.nil u) hx).trans h
  rwa [show 0 + 1 + k = k + 1 by omega] at this
def negs (far : List Int) : Nat := far.countP fun x => decide (x < 0)
theorem negs_set : ∀ {b : List Int} {i : Nat} {x : Int}, b.getD i 0 < 0 → 0 ≤ x → negs (b.set i x) + 1 = negs b
  | [], i, x, h, _ => by simp at h
  | y :: r, 0, x, h, hx => by
    have h : y < 0 := by simpa using h
    unfold negs
    rw [List.set_cons_zero, List.countP_cons_of_neg (by simpa using hx), List.countP_cons_of_pos (by simpa using h)]
  | y :: r, i + 1, x, h, hx => by
    have ih := negs_set (b := r) (i := i) (x := x) (by simpa using h) hx
    unfold negs at ih ⊢
    rw [List.set_cons_succ, List.countP_cons, List.countP_cons]
    omega
theorem negs_le (far : List Int) : negs far ≤ far.length := List.countP_le_length
theorem rd_set {xs : List Int} {i j : Int} {x : Int} (hi : 0 ≤ i) (hj : 0 ≤ j) (hl : i < xs.length) : rd (xs.set i.toNat x) j = if i = j then x else rd xs j := by
  unfold rd
  by_cases h : i = j
  · subst h
    rw [if_pos rfl]
    have : i.toNat < xs.length := by omega
    simp [List.getD, this]
  · have : i.toNat ≠ j.toNat := by omega
    rw [if_neg h]
    simp [List.getD, List.getElem?_set_ne this]
def Inn (n : Nat) (l : List S53) : Prop := ∀ v w : Int, w ∈ succL l v → 0 ≤ v ∧ v < n ∧ 0 ≤ w ∧ w < n
structure BF (n : Nat) (l : List S53) (src : Int → Prop) (N : Int) (far work : List Int) : Prop where
  len : far.length = n
  wk : ∀ v ∈ work, 0 ≤ v ∧ v < n ∧ 0 ≤ rd far v
  bd : ∀ v : Int, 0 ≤ v → v < n → rd far v + negs far ≤ N
  lo : ∀ v : Int, 0 ≤ v → v < n → -1 ≤ rd far v
  cl : ∀ v : Int, 0 ≤ v → v < n → 0 ≤ rd far v → v ∉ work → ∀ w ∈ succL l v, 0 ≤ rd far w ∧ rd far w ≤ rd far v + 1
  srt : work.Pairwise fun a b => rd far a ≤ rd far b
  hd : ∀ h ∈ work.head?, ∀ v : Int, 0 ≤ v → v < n → rd far v ≤ rd far h + 1
  st : ∀ v : Int, 0 ≤ v → v < n → 0 ≤ rd far v → v ∉ work → ∀ h ∈ work, rd far v ≤ rd far h
  so : ∀ v : Int, 0 ≤ v → v < n → 0 ≤ rd far v → (rd far v = 0 ∧ src v) ∨ ∃ u : Int, 0 ≤ u ∧ u < n ∧ v ∈ succL l u ∧ 0 ≤ rd far u ∧ rd far v = rd far u + 1
  ss : ∀ v : Int, src v → 0 ≤ v → v < n → rd far v = 0
  nd : work.Nodup
section
variable {n : Nat} {l : List S53} {src : Int → Prop} {N : Int} {far : List Int}
theorem BF.push {v w : Int} {r : List Int} (h : BF n l src N far (v :: r)) (hN : N ≤ 1000000) (hE : Inn n l) (hw : w ∈ succL l v) (hf : rd far w < 0) :
    BF n l src N (far.set w.toNat (wrap64 (rd far v + 1))) (v :: (r ++ [w])) ∧ negs (far.set w.toNat (wrap64 (rd far v + 1))) + 1 = negs far := by
  obtain ⟨_, _, w0, w1⟩ := hE v w hw
  obtain ⟨v0, v1, v2⟩ := h.wk v List.mem_cons_self
  have hb := h.bd v v0 v1
  have e : wrap64 (rd far v + 1) = rd far v + 1 := by unfold wrap64; omega
  rw [e]
  have hlw : w < far.length := by rw [h.len]; exact w1
  have hneg : negs (far.set w.toNat (rd far v + 1)) + 1 = negs far := negs_set (by unfold rd at hf; exact hf) (by omega)
  have R : ∀ u : Int, 0 ≤ u → rd (far.set w.toNat (rd far v + 1)) u = if w = u then rd far v + 1 else rd far u := fun u hu => rd_set w0 hu hlw
  have same : ∀ u : Int, 0 ≤ u → 0 ≤ rd far u → rd (far.set w.toNat (rd far v + 1)) u = rd far u := fun u hu hs => by
    rw [R u hu, if_neg (fun e => by subst e; omega)]
  have hmem : ∀ u ∈ v :: r, rd (far.set w.toNat (rd far v + 1)) u = rd far u := fun u hu => same u (h.wk u hu).1 (h.wk u hu).2.2
  have hcons : v :: (r ++ [w]) = (v :: r) ++ [w] := rfl
  have hwn : w ∉ v :: r := fun hm => by have := (h.wk w hm).2.2; omega
  refine ⟨⟨by rw [List.length_set]; exact h.len, ?_, ?_, ?_, ?_, ?_, ?_, ?_, ?_, ?_, ?_⟩, hneg⟩
  · intro u hu
    rw [hcons, List.mem_append, List.mem_singleton] at hu
    rcases hu with hu | rfl
    · rw [hmem u hu]; exact h.wk u hu
    · rw [R u w0, if_pos rfl]; exact ⟨w0, w1, by omega⟩
  · intro u u0 u1
    rw [R u u0]
    split
    · omega
    · have := h.bd u u0 u1; omega
  · intro u u0 u1
    rw [R u u0]
    split
    · omega
    · exact h.lo u u0 u1
  · intro u u0 u1 u2 hu x hx
    rw [hcons, List.mem_append, List.mem_singleton, not_or] at hu
    rw [R u u0, if_neg (Ne.symm hu.2)] at u2 ⊢
    obtain ⟨h1, h2⟩ := h.cl u u0 u1 u2 hu.1 x hx
    rw [same x (hE u x hx).2.2.1 h1]
    exact ⟨h1, h2⟩
  · rw [hcons, List.pairwise_append]
    refine ⟨?_, List.pairwise_singleton _ _, ?_⟩
    · refine List.Pairwise.imp_of_mem ?_ h.srt
      intro a b ha hb hab
      rw [hmem a ha, hmem b hb]
      exact hab
    · intro a ha b hb
      rw [List.mem_singleton] at hb
      subst hb
      rw [hmem a ha, R b w0, if_pos rfl]
      exact h.hd v rfl a (h.wk a ha).1 (h.wk a ha).2.1
  · intro a ha u u0 u1
    obtain rfl : v = a := by simpa using ha
    rw [hmem v List.mem_cons_self, R u u0]
    split
    · omega
    · exact h.hd v rfl u u0 u1
  · intro u u0 u1 u2 hu a ha
    rw [hcons, List.mem_append, List.mem_singleton, not_or] at hu
    rw [R u u0, if_neg (Ne.symm hu.2)] at u2 ⊢
    rw [hcons, List.mem_append, List.mem_singleton] at ha
    rcases ha with ha | rfl
    · rw [hmem a ha]; exact h.st u u0 u1 u2 hu.1 a ha
    · rw [R a w0, if_pos rfl]
      have := h.st u u0 u1 u2 hu.1 v List.mem_cons_self
      omega
  · intro u u0 u1 u2
    rw [R u u0] at u2 ⊢
    by_cases e : w = u
    · subst e
      rw [if_pos rfl]
      exact .inr ⟨v, v0, v1, hw, by rw [hmem v List.mem_cons_self]; exact v2, by rw [hmem v List.mem_cons_self]⟩
    · rw [if_neg e] at u2 ⊢
      rcases h.so u u0 u1 u2 with h1 | ⟨y, y0, y1, y2, y3, y4⟩
      · exact .inl h1
      · exact .inr ⟨y, y0, y1, y2, by rw [same y y0 y3]; exact y3, by rw [same y y0 y3]; exact y4⟩
  · intro u hs u0 u1
    have := h.ss u hs u0 u1
    rw [same u u0 (by omega), this]
  · rw [hcons, List.nodup_append]
    refine ⟨h.nd, by simp, ?_⟩
    intro a ha b hb e
    rw [List.mem_singleton] at hb
    subst hb
    subst e
    exact hwn ha
theorem BF.bstep {v w : Int} {r : List Int} (h : BF n l src N far (v :: r)) (hN : N ≤ 1000000) (hE : Inn n l) (hw : w ∈ succL l v) :
    BF n l src N (bstep v (far, r) w).1 (v :: (bstep v (far, r) w).2) ∧ negs (bstep v (far, r) w).1 + (bstep v (far, r) w).2.length = negs far + r.length ∧
      rd (bstep v (far, r) w).1 v = rd far v ∧ 0 ≤ rd (bstep v (far, r) w).1 w ∧ (∀ u : Int, 0 ≤ u → 0 ≤ rd far u → rd (bstep v (far, r) w).1 u = rd far u) ∧ (∀ x ∈ r, x ∈ (bstep v (far, r) w).2) := by
  obtain ⟨_, _, w0, w1⟩ := hE v w hw
  obtain ⟨v0, v1, v2⟩ := h.wk v List.mem_cons_self
  have hb := h.bd v v0 v1
  have e : wrap64 (rd far v + 1) = rd far v + 1 := by unfold wrap64; omega
  have hlw : w < far.length := by rw [h.len]; exact w1
  unfold Xq.bstep
  by_cases hf : rd far w < 0
  · rw [if_pos (show rd (far, r).1 w < 0 from hf)]
    obtain ⟨h1, h2⟩ := h.push hN hE hw hf
    refine ⟨h1, by simp; omega, ?_, ?_, ?_, by simp; intro x hx; exact .inl hx⟩
    · show rd (far.set w.toNat (wrap64 (rd far v + 1))) v = rd far v
      rw [rd_set w0 v0 hlw, if_neg (fun e => by subst e; omega)]
    · show 0 ≤ rd (far.set w.toNat (wrap64 (rd far v + 1))) w
      rw [rd_set w0 w0 hlw, if_pos rfl, e]
      omega
    · intro u u0 u1
      show rd (far.set w.toNat (wrap64 (rd far v + 1))) u = rd far u
      rw [rd_set w0 u0 hlw, if_neg (fun e => by subst e; omega)]
  · rw [if_neg (show ¬ rd (far, r).1 w < 0 from hf)]
    exact ⟨h, rfl, rfl, by show 0 ≤ rd far w; omega, fun _ _ _ => rfl, fun _ hx => hx⟩
theorem BF.bsteps {v : Int} (hN : N ≤ 1000000) (hE : Inn n l) : ∀ (xs : List Int) (far r : List Int), (∀ x ∈ xs, x ∈ succL l v) → BF n l src N far (v :: r) →
    BF n l src N (xs.foldl (Xq.bstep v) (far, r)).1 (v :: (xs.foldl (Xq.bstep v) (far, r)).2) ∧ negs (xs.foldl (Xq.bstep v) (far, r)).1 + (xs.foldl (Xq.bstep v) (far, r)).2.length = negs far + r.length ∧
      (∀ x ∈ xs, 0 ≤ rd (xs.foldl (Xq.bstep v) (far, r)).1 x) ∧ (∀ u : Int, 0 ≤ u → 0 ≤ rd far u → rd (xs.foldl (Xq.bstep v) (far, r)).1 u = rd far u) := by
  intro xs
  induction xs with
  | nil => intro far r _ h; exact ⟨h, rfl, by simp, fun _ _ _ => rfl⟩
  | cons x xs ih =>
    intro far r hx h
    rw [List.foldl_cons]
    have hxs := hx x List.mem_cons_self
    obtain ⟨h1, h2, h3, h4, h5, h6⟩ := h.bstep hN hE hxs
    obtain ⟨g1, g2, g3, g4⟩ := ih _ _ (fun y hy => hx y (List.mem_cons_of_mem _ hy)) h1
    rw [Prod.eta] at g1 g2 g3 g4
    refine ⟨g1, by omega, ?_, ?_⟩
    · intro y hy
      rcases List.mem_cons.1 hy with rfl | hy
      · rw [g4 y (hE v y hxs).2.2.1 h4]; exact h4
      · exact g3 y hy
    · intro u u0 u1
      rw [g4 u u0 (by rw [h5 u u0 u1]; exact u1), h5 u u0 u1]
theorem BF.round {v : Int} {r : List Int} (h : BF n l src N far (v :: r)) (hN : N ≤ 1000000) (hE : Inn n l) :
    BF n l src N ((succL l v).foldl (Xq.bstep v) (far, r)).1 ((succL l v).foldl (Xq.bstep v) (far, r)).2 ∧
      negs ((succL l v).foldl (Xq.bstep v) (far, r)).1 + ((succL l v).foldl (Xq.bstep v) (far, r)).2.length = negs far + r.length := by
  obtain ⟨h1, h2, h3, h4⟩ := BF.bsteps hN hE (succL l v) far r (fun _ hx => hx) h
  refine ⟨?_, h2⟩
  generalize (succL l v).foldl (Xq.bstep v) (far, r) = s at h1 h2 h3 h4 ⊢
  obtain ⟨v0, v1, v2⟩ := h1.wk v List.mem_cons_self
  have hnd := List.nodup_cons.1 h1.nd
  have hp := List.pairwise_cons.1 h1.srt
  refine ⟨h1.len, fun u hu => h1.wk u (List.mem_cons_of_mem _ hu), h1.bd, h1.lo, ?_, hp.2, ?_, ?_, h1.so, h1.ss, hnd.2⟩
  · intro u u0 u1 u2 hu w hw
    by_cases e : u = v
    · subst e
      exact ⟨h3 w hw, h1.hd u rfl w (hE u w hw).2.2.1 (hE u w hw).2.2.2⟩
    · exact h1.cl u u0 u1 u2 (by rw [List.mem_cons, not_or]; exact ⟨e, hu⟩) w hw
  · intro a ha u u0 u1
    have ham : a ∈ s.2 := by
      cases hs : s.2 with
      | nil => rw [hs] at ha; simp at ha
      | cons b t => rw [hs] at ha; simp at ha; simp [ha]
    have := h1.hd v rfl u u0 u1
    have := hp.1 a ham
    omega
  · intro u u0 u1 u2 hu a ha
    by_cases e : u = v
    · subst e; exact hp.1 a ha
    · exact h1.st u u0 u1 u2 (by rw [List.mem_cons, not_or]; exact ⟨e, hu⟩) a (List.mem_cons_of_mem _ ha)
theorem BF.run (hN : N ≤ 1000000) (hE : Inn n l) (hn : n ≤ 100000) : ∀ (k : Nat) (far work : List Int), BF n l src N far work → negs far + work.length < k → negs far + work.length ≤ n →
    ∃ ws, distF l k (far, work) = some ws ∧ BF n l src N ws [] := by
  intro k
  induction k with
  | zero => intro far work h hk; omega
  | succ k ih =>
    intro far work h hk hn2
    match work, h, hk, hn2 with
    | [], h, hk, hn2 => exact ⟨far, rfl, h⟩
    | v :: r, h, hk, hn2 =>
      obtain ⟨h1, h2⟩ := h.round hN hE
      rw [List.length_cons] at hk hn2
      obtain ⟨ws, h3, h4⟩ := ih _ _ h1 (by omega) (by omega)
      refine ⟨ws, ?_, h4⟩
      unfold distF
      simp only
      rw [if_pos (by omega), ← h3]
theorem BF.back {ws : List Int} (h : BF n l src N ws []) : ∀ (d : Nat) (v : Int), 0 ≤ v → v < n → rd ws v = d → ∃ s, src s ∧ 0 ≤ s ∧ s < n ∧ Way l d s v
  | 0, v, v0, v1, hd => by
    rcases h.so v v0 v1 (by omega) with ⟨_, h1⟩ | ⟨u, _, _, _, h2, h3⟩
    · exact ⟨v, h1, v0, v1, .nil _⟩
    · omega
  | d + 1, v, v0, v1, hd => by
    rcases h.so v v0 v1 (by omega) with ⟨h1, _⟩ | ⟨u, u0, u1, u2, h2, h3⟩
    · omega
    · obtain ⟨s, h4, h5, h6, h7⟩ := h.back d u u0 u1 (by omega)
      exact ⟨s, h4, h5, h6, h7.snoc u2⟩
end
structure BI (n : Nat) (src : Int → Prop) (far work : List Int) : Prop where
  len : far.length = n
  lo : ∀ v : Int, 0 ≤ v → v < n → rd far v = -1 ∨ rd far v = 0
  wk : ∀ v : Int, v ∈ work ↔ (0 ≤ v ∧ v < n ∧ rd far v = 0)
  so : ∀ v : Int, 0 ≤ v → v < n → (rd far v = 0 ↔ src v)
  nd : work.Nodup
  cnt : negs far + work.length ≤ n
theorem rd_rep {n : Nat} {x v : Int} (v0 : 0 ≤ v) (v1 : v < n) : rd (List.replicate n x) v = x := by
  have : v.toNat < n := by omega
  unfold rd
  simp [List.getD, this]
theorem BI.start (n : Nat) : BI n (fun _ => False) (List.replicate n (-1)) [] := by
  refine ⟨by simp, fun v v0 v1 => .inl (rd_rep v0 v1), ?_, ?_, List.nodup_nil, ?_⟩
  · intro v
    constructor
    · intro h; cases h
    · rintro ⟨a, b, c⟩
      rw [rd_rep a b] at c
      omega
  · intro v v0 v1
    rw [rd_rep v0 v1]
    simp
  · have := negs_le (List.replicate n (-1 : Int))
    rw [List.length_replicate] at this
    simpa using this
end Go.Proofs.YtfgbkklhjocmjaaDoor.Xq
namespace Go.Proofs.YtfgbkklhjocmjaaDoor.Xq
open Go.RowKit Go.Shelf Go.Proofs.YtfgbkklhjocmjaaDoorW.PrintWords Go.Proofs.YtfgbkklhjocmjaaDoorW.PrintLast Go.Proofs.YtfgbkklhjocmjaaDoor.Gv
def AscI (l : List Int) : Prop := l.Pairwise fun a b => a < b
theorem ascI_ext : ∀ {l m : List Int}, AscI l → AscI m → (∀ x, x ∈ l ↔ x ∈ m) → l = m
  | [], [], _, _, _ => rfl
  | [], y :: m, _, _, h => absurd ((h y).2 List.mem_cons_self) (by simp)
  | x :: l, [], _, _, h => absurd ((h x).1 List.mem_cons_self) (by simp)
  | x :: l, y :: m, hl, hm, h => by
    obtain ⟨h1, h2⟩ := List.pairwise_cons.1 hl
    obtain ⟨h3, h4⟩ := List.pairwise_cons.1 hm
    have e : x = y := by
      rcases List.mem_cons.1 ((h x).1 List.mem_cons_self) with e | e
      · exact e
      · rcases List.mem_cons.1 ((h y).2 List.mem_cons_self) with e' | e'
        · exact e'.symm
        · have := h1 y e'
          have := h3 x e
          omega
    subst e
    rw [ascI_ext h2 h4 (fun z => ?_)]
    constructor
    · intro hz
      rcases List.mem_cons.1 ((h z).1 (List.mem_cons_of_mem _ hz)) with e | e
      · have := h1 z hz; omega
      · exact e
    · intro hz
      rcases List.mem_cons.1 ((h z).2 (List.mem_cons_of_mem _ hz)) with e | e
      · have := h3 z hz; omega
      · exact e
theorem ascI_nodup {l : List Int} (h : AscI l) : l.Nodup := List.nodup_iff_pairwise_ne.2 (List.Pairwise.imp (fun {a b} h e => by omega) h)
def those (n : Nat) (p : Nat → Bool) : List Int := ((List.range n).filter p).map fun x : Nat => (x : Int)
theorem mem_those {n : Nat} {p : Nat → Bool} {v : Int} : v ∈ those n p ↔ 0 ≤ v ∧ v < n ∧ p v.toNat = true := by
  unfold those
  rw [List.mem_map]
  constructor
  · rintro ⟨x, hx, rfl⟩
    rw [List.mem_filter, List.mem_range] at hx
    exact ⟨by omega, by omega, by simpa using hx.2⟩
  · rintro ⟨a, b, c⟩
    exact ⟨v.toNat, List.mem_filter.2 ⟨List.mem_range.2 (by omega), c⟩, by omega⟩
theorem those_asc (n : Nat) (p : Nat → Bool) : AscI (those n p) := by
  unfold those AscI
  rw [List.pairwise_map]
  refine List.Pairwise.imp (R := fun a b : Nat => a < b) (fun {a b} h => by omega) ?_
  exact List.Pairwise.filter _ List.pairwise_lt_range
theorem listW_eq : ∀ (ws : List Nat) (i : Nat), (∀ y ∈ ws, y < 18446744073709551616) →
    listW i ws = ((List.range' (i * 64) (64 * ws.length)).filter fun x => (ws.getD (x / 64 - i) 0).testBit (x % 64)).map fun x : Nat => (x : Int)
  | [], i, _ => by simp [listW]
  | y :: r, i, h => by
    have h1 := bitsL_eq y (h y (by simp))
    have h2 := listW_eq r (i + 1) (fun z hz => h z (by simp [hz]))
    have e : List.range' (i * 64) (64 * (y :: r).length) = List.range' (i * 64) 64 ++ List.range' ((i + 1) * 64) (64 * r.length) := by
      rw [List.length_cons, show 64 * (r.length + 1) = 64 + 64 * r.length by omega, show (i + 1) * 64 = i * 64 + 1 * 64 by omega, List.range'_append]
    rw [listW, e, List.filter_append, List.map_append, h1, h2]
    congr 1
    · have e2 : List.range' (i * 64) 64 = (List.range 64).map fun b => i * 64 + b := by
        rw [List.range_eq_range', List.map_add_range']
        simp
      rw [e2, List.filter_map, List.map_map]
      congr 1
      apply List.filter_congr
      intro b hb
      have hb : b < 64 := List.mem_range.1 hb
      show _ = ((y :: r).getD ((i * 64 + b) / 64 - i) 0).testBit ((i * 64 + b) % 64)
      rw [show (i * 64 + b) / 64 - i = 0 by omega, show (i * 64 + b) % 64 = b by omega]
      rfl
    · congr 1
      apply List.filter_congr
      intro x hx
      have := (List.mem_range'_1.1 hx).1
      rw [show x / 64 - i = (x / 64 - (i + 1)) + 1 by omega]
      rfl
theorem listW_those (ws : List Nat) (h : ∀ y ∈ ws, y < 18446744073709551616) : listW 0 ws = those (64 * ws.length) (hasN ws) := by
  rw [listW_eq ws 0 h]
  unfold those
  rw [List.range_eq_range', Nat.zero_mul]
  rfl
def free (n : Nat) (ws : List Nat) : Nat := (List.range n).countP fun x => !hasN ws x
theorem free_le (n : Nat) (ws : List Nat) : free n ws ≤ n := by
  have := @List.countP_le_length _ (fun x => !hasN ws x) (List.range n)
  rwa [List.length_range] at this
theorem countP_one {p q : Nat → Bool} {v : Nat} (hp : p v = true) (hq : ∀ x, q x = (p x && decide (x ≠ v))) : ∀ n : Nat, (List.range n).countP q + (if v < n then 1 else 0) = (List.range n).countP p
  | 0 => by simp
  | n + 1 => by
    have ih := countP_one hp hq n
    rw [List.range_succ, List.countP_append, List.countP_append, List.countP_singleton, List.countP_singleton, hq n]
    rcases Nat.lt_trichotomy v n with h | h | h
    · rw [if_pos h] at ih
      rw [if_pos (show v < n + 1 by omega), show decide (n ≠ v) = true by simp; omega, Bool.and_true]
      omega
    · subst h
      rw [if_neg (Nat.lt_irrefl v)] at ih
      rw [if_pos (show v < v + 1 by omega), hp, show decide (v ≠ v) = false by simp, Bool.and_false]
      simp
      omega
    · rw [if_neg (show ¬ v < n by omega)] at ih
      rw [if_neg (show ¬ v < n + 1 by omega), show decide (n ≠ v) = true by simp; omega, Bool.and_true]
      omega
theorem free_set {n : Nat} {ws : List Nat} {v : Nat} (hl : v / 64 < ws.length) (hv : v < n) (hn : hasN ws v = false) : free n (setN ws v) + 1 = free n ws := by
  have := countP_one (p := fun x => !hasN ws x) (q := fun x => !hasN (setN ws v) x) (v := v) (by simp [hn]) (fun x => by
    rw [hasN_setN ws v x hl]
    simp) n
  rw [if_pos hv] at this
  exact this
structure Adds (n : Nat) (ws : List Nat) (wk : List Int) (xs : List Int) (s : List Nat × List Int) : Prop where
  len : s.1.length = ws.length
  lt : ∀ y ∈ s.1, y < 18446744073709551616
  has : ∀ x : Nat, hasN s.1 x = true ↔ hasN ws x = true ∨ ((x : Int) ∈ xs ∧ x < n)
  mem : ∀ v : Int, v ∈ s.2 ↔ v ∈ wk ∨ (v ∈ xs ∧ 0 ≤ v ∧ v < n ∧ hasN ws v.toNat = false)
  cnt : free n s.1 + s.2.length = free n ws + wk.length
theorem addFs_spec (n : Nat) : ∀ (xs : List Int) (ws : List Nat) (wk : List Int), ws.length = n / 64 + 1 → (∀ y ∈ ws, y < 18446744073709551616) → Adds n ws wk xs (xs.foldl (addF n) (ws, wk)) := by
  intro xs
  induction xs with
  | nil => intro ws wk hl hlt; exact ⟨rfl, hlt, fun x => by simp, fun v => by simp, rfl⟩
  | cons x xs ih =>
    intro ws wk hl hlt
    rw [List.foldl_cons]
    by_cases hx : 0 ≤ x ∧ x < n ∧ hasN ws x.toNat = false
    · have e : addF n (ws, wk) x = (setN ws x.toNat, wk ++ [x]) := by unfold addF; rw [if_pos hx]
      rw [e]
      obtain ⟨x0, x1, x2⟩ := hx
      have hq : x.toNat / 64 < ws.length := by omega
      have hs := fun y => hasN_setN ws x.toNat y hq
      obtain ⟨h1, h2, h3, h4, h5⟩ := ih (setN ws x.toNat) (wk ++ [x]) (by rw [setN_len, hl]) (setN_lt ws x.toNat hlt)
      refine ⟨by rw [h1, setN_len], h2, fun y => ?_, fun v => ?_, ?_⟩
      · rw [h3, hs]
        simp only [Bool.or_eq_true, decide_eq_true_eq, List.mem_cons]
        constructor
        · rintro ((h | rfl) | ⟨h, g⟩)
          · exact .inl h
          · exact .inr ⟨.inl (by omega), by omega⟩
          · exact .inr ⟨.inr h, g⟩
        · rintro (h | ⟨h | h, g⟩)
          · exact .inl (.inl h)
          · exact .inl (.inr (by omega))
          · exact .inr ⟨h, g⟩
      · rw [h4, hs, List.mem_append, List.mem_singleton, List.mem_cons, Bool.or_eq_false_iff, decide_eq_false_iff_not]
        constructor
        · rintro ((h | rfl) | ⟨h, g0, g1, g2, g3⟩)
          · exact .inl h
          · exact .inr ⟨.inl rfl, x0, x1, x2⟩
          · exact .inr ⟨.inr h, g0, g1, g2⟩
        · rintro (h | ⟨h | h, g0, g1, g2⟩)
          · exact .inl (.inl h)
          · exact .inl (.inr h)
          · by_cases e : v = x
            · exact .inl (.inr e)
            · exact .inr ⟨h, g0, g1, g2, by omega⟩
      · have := free_set hq (show x.toNat < n by omega) x2
        rw [h5, List.length_append, List.length_singleton]
        omega
    · have e : addF n (ws, wk) x = (ws, wk) := by unfold addF; rw [if_neg hx]
      rw [e]
      obtain ⟨h1, h2, h3, h4, h5⟩ := ih ws wk hl hlt
      refine ⟨h1, h2, fun y => ?_, fun v => ?_, h5⟩
      · rw [h3, List.mem_cons]
        constructor
        · rintro (h | ⟨h, g⟩)
          · exact .inl h
          · exact .inr ⟨.inr h, g⟩
        · rintro (h | ⟨h | h, g⟩)
          · exact .inl h
          · subst h
            have h2 : ¬ hasN ws y = false := fun h2 => hx ⟨by omega, by omega, by simpa using h2⟩
            exact .inl (by simpa using h2)
          · exact .inr ⟨h, g⟩
      · rw [h4, List.mem_cons]
        constructor
        · rintro (h | ⟨h, g⟩)
          · exact .inl h
          · exact .inr ⟨.inr h, g⟩
        · rintro (h | ⟨h | h, g⟩)
          · exact .inl h
          · subst h; exact absurd g hx
          · exact .inr ⟨h, g⟩
structure RF (n : Nat) (l : List S53) (src : Int → Prop) (ws : List Nat) (wk : List Int) : Prop where
  len : ws.length = n / 64 + 1
  lt : ∀ y ∈ ws, y < 18446744073709551616
  rg : ∀ x : Nat, hasN ws x = true → x < n
  wkn : ∀ v ∈ wk, 0 ≤ v ∧ hasN ws v.toNat = true
  cl : ∀ x : Nat, hasN ws x = true → (x : Int) ∉ wk → ∀ w ∈ succL l x, hasN ws w.toNat = true
  so : ∀ x : Nat, hasN ws x = true → ∃ s, src s ∧ 0 ≤ s ∧ s < n ∧ Rch l s x
  ss : ∀ s, src s → 0 ≤ s → s < n → hasN ws s.toNat = true
theorem RF.round {n : Nat} {l : List S53} {src : Int → Prop} {ws : List Nat} {r : List Int} {v : Int} (hE : Inn n l) (h : RF n l src ws (r ++ [v])) :
    RF n l src ((succL l v).foldl (addF n) (ws, r)).1 ((succL l v).foldl (addF n) (ws, r)).2 ∧ free n ((succL l v).foldl (addF n) (ws, r)).1 + ((succL l v).foldl (addF n) (ws, r)).2.length = free n ws + r.length := by
  have a := addFs_spec n (succL l v) ws r h.len h.lt
  generalize (succL l v).foldl (addF n) (ws, r) = s at a ⊢
  obtain ⟨v0, hv⟩ := h.wkn v (by simp)
  have up : ∀ x : Nat, hasN ws x = true → hasN s.1 x = true := fun x hx => (a.has x).2 (.inl hx)
  have sc : ∀ w ∈ succL l v, hasN s.1 w.toNat = true := fun w hw => by
    obtain ⟨_, _, w0, w1⟩ := hE v w hw
    exact (a.has _).2 (.inr ⟨by rwa [show ((w.toNat : Nat) : Int) = w by omega], by omega⟩)
  refine ⟨⟨a.len.trans h.len, a.lt, ?_, ?_, ?_, ?_, fun s hs s0 s1 => up _ (h.ss s hs s0 s1)⟩, a.cnt⟩
  · intro x hx
    rcases (a.has x).1 hx with h1 | ⟨_, h1⟩
    · exact h.rg x h1
    · exact h1
  · intro w hw
    rcases (a.mem w).1 hw with h1 | ⟨h1, h2, h3, h4⟩
    · obtain ⟨h2, h3⟩ := h.wkn w (by simp [h1])
      exact ⟨h2, up _ h3⟩
    · exact ⟨h2, sc w h1⟩
  · intro x hx hxn w hw
    have hxr : (x : Int) ∉ r := fun hm => hxn ((a.mem _).2 (.inl hm))
    by_cases e : (x : Int) = v
    · rw [e] at hw; exact sc w hw
    · rcases (a.has x).1 hx with h1 | ⟨h1, h2⟩
      · exact up _ (h.cl x h1 (by simp [hxr, e]) w hw)
      · by_cases hn : hasN ws x = true
        · exact up _ (h.cl x hn (by simp [hxr, e]) w hw)
        · exact absurd ((a.mem _).2 (.inr ⟨h1, by omega, by omega, by simpa using hn⟩)) hxn
  · intro x hx
    rcases (a.has x).1 hx with h1 | ⟨h1, h2⟩
    · exact h.so x h1
    · obtain ⟨s, g1, g2, g3, g4⟩ := h.so v.toNat hv
      rw [show ((v.toNat : Nat) : Int) = v by omega] at g4
      exact ⟨s, g1, g2, g3, g4.step h1⟩
theorem RF.run {n : Nat} {l : List S53} {src : Int → Prop} (hE : Inn n l) (hn : n ≤ 100000) : ∀ (k : Nat) (ws : List Nat) (wk : List Int), RF n l src ws wk → free n ws + wk.length < k → free n ws + wk.length ≤ n →
    ∃ r, reachF n l k (ws, wk) = some r ∧ RF n l src r [] := by
  intro k
  induction k with
  | zero => intro ws wk h hk; omega
  | succ k ih =>
    intro ws wk h hk hn2
    unfold reachF
    by_cases he : wk = []
    · subst he
      exact ⟨ws, by rw [if_pos rfl], h⟩
    · rw [if_neg he, if_pos (show wk.length ≤ 100000 by omega)]
      obtain ⟨r, v, rfl⟩ : ∃ r v, wk = r ++ [v] := ⟨wk.dropLast, wk.getLast he, (List.dropLast_concat_getLast he).symm⟩
      obtain ⟨h1, h2⟩ := h.round hE
      rw [List.length_append, List.length_singleton] at hk hn2
      simp only [List.getLast?_concat, Option.getD_some, List.dropLast_concat]
      exact ih _ _ h1 (by omega) (by omega)
theorem hasN_rep (m x : Nat) : hasN (List.replicate m 0) x = false := by
  have : (List.replicate m 0).getD (x / 64) 0 = 0 := by
    rw [List.getD_eq_getElem?_getD, List.getElem?_replicate]
    split <;> rfl
  unfold hasN
  rw [this, Nat.zero_testBit]
theorem reach_some {n : Nat} {l : List S53} (hv : Valid n l) (from_ : List Int) (hf : from_.length ≤ 60000) : ∃ p : Nat → Bool, graph_Reach.f n l from_ = some (those n p) ∧ ∀ v : Int, 0 ≤ v → v < n → (p v.toNat = true ↔ ∃ s, s ∈ from_ ∧ 0 ≤ s ∧ s < n ∧ Rch l s v) := by
  have hn : (n : Int) ≤ 8192 := hv.n1
  have hE : Inn n l := fun v w hw => by
    obtain ⟨a, b, c, d⟩ := hv.succ_lt hw
    exact ⟨c, d, a, b⟩
  have a := addFs_spec n from_ (List.replicate (n / 64 + 1) 0) [] (by simp) (fun y hy => by
    rw [List.mem_replicate] at hy
    omega)
  have hfr := free_le n (List.replicate (n / 64 + 1) 0)
  have h0 : RF n l (fun s => s ∈ from_) (from_.foldl (addF n) (List.replicate (n / 64 + 1) 0, [])).1 (from_.foldl (addF n) (List.replicate (n / 64 + 1) 0, [])).2 := by
    have hh : ∀ x : Nat, hasN (from_.foldl (addF n) (List.replicate (n / 64 + 1) 0, [])).1 x = true ↔ ((x : Int) ∈ from_ ∧ x < n) := fun x => by
      rw [a.has, hasN_rep]
      simp
    refine ⟨by rw [a.len]; simp, a.lt, fun x hx => ((hh x).1 hx).2, ?_, ?_, ?_, ?_⟩
    · intro v hv
      rcases (a.mem v).1 hv with h1 | ⟨h1, h2, h3, h4⟩
      · cases h1
      · exact ⟨h2, (hh _).2 ⟨by rwa [show ((v.toNat : Nat) : Int) = v by omega], by omega⟩⟩
    · intro x hx hxn
      obtain ⟨h1, h2⟩ := (hh x).1 hx
      exact absurd ((a.mem _).2 (.inr ⟨h1, by omega, by omega, hasN_rep _ _⟩)) hxn
    · intro x hx
      obtain ⟨h1, h2⟩ := (hh x).1 hx
      exact ⟨x, h1, by omega, by omega, Rch.refl _ _⟩
    · intro s hs s0 s1
      exact (hh _).2 ⟨by rwa [show ((s.toNat : Nat) : Int) = s by omega], by omega⟩
  obtain ⟨r, h1, h2⟩ := RF.run hE (by omega) 10000 _ _ h0 (by rw [a.cnt]; simp; omega) (by rw [a.cnt]; simp; exact hfr)
  rw [Prod.eta] at h1
  refine ⟨hasN r, ?_, ?_⟩
  · unfold graph_Reach.f
    rw [if_pos ((chk_zero _ _).2 hv), if_pos hf, Int.toNat_natCast, h1, Option.map_some, listW_those r h2.lt]
    congr 1
    refine ascI_ext (those_asc _ _) (those_asc _ _) (fun v => ?_)
    rw [mem_those, mem_those]
    constructor
    · rintro ⟨a, b, c⟩
      have := h2.rg _ c
      exact ⟨a, by omega, c⟩
    · rintro ⟨a, b, c⟩
      have := h2.len
      exact ⟨a, by omega, c⟩
  · intro v v0 v1
    constructor
    · intro h
      have := h2.so _ h
      rwa [show ((v.toNat : Nat) : Int) = v by omega] at this
    · rintro ⟨s, g1, g2, g3, k, g4⟩
      have hs := h2.ss s g1 g2 g3
      clear g1 g3
      induction g4 with
      | nil => exact hs
      | snoc hw hx ih =>
        obtain ⟨c, d, _, _⟩ := hE _ _ hx
        have h3 := ih c d g2 hs
        refine h2.cl _ h3 (by simp) _ ?_
        rwa [show ((_ : Int).toNat : Int) = _ from Int.toNat_of_nonneg c]
end Go.Proofs.YtfgbkklhjocmjaaDoor.Xq
namespace Go.Proofs.YtfgbkklhjocmjaaDoor.Xq
open Go.RowKit Go.Proofs.YtfgbkklhjocmjaaDoorW.PrintWords Go.Proofs.YtfgbkklhjocmjaaDoorW.PrintLast Go.Proofs.YtfgbkklhjocmjaaDoor.Gv
theorem refCheck_j2 (n : Int) (l : List S53) (i : Nat) (hi : i < l.length) (hl : l.length ≤ 32768) (R : Int) (ih : Ev (fun k => r4_Check.l0 k ((i + 1 : Nat) : Int) n l) R) :
    ∀ b : Bool, Ev (fun k => r4_Check.j2 k (i : Int) b n l l[i].f0 l[i].f1) (if b = true then 4 else if (match (if i = 0 then none else some (rd_T53 l ((i : Int) - 1))) with | none => false | some y => !ltE y l[i]) = true then 13 else R) := by
  intro b
  refine evStep (fun k => by rw [r4_Check.j2]) ?_
  refine evCase (fun _ => evSome rfl) (fun _ => ?_)
  have hw : wrap64 ((i : Int) + 1) = ((i + 1 : Nat) : Int) := by unfold wrap64; omega
  rw [hw]
  by_cases h0 : i = 0
  · subst h0
    refine evNeg (by omega) ?_
    rw [if_pos rfl]
    simpa using ih
  · have hw2 : wrap64 ((i : Int) - 1) = ((i - 1 : Nat) : Int) := by unfold wrap64; omega
    have e2 : (i : Int) - 1 = ((i - 1 : Nat) : Int) := by omega
    rw [hw2, if_neg h0, e2]
    refine evPos (by omega) (evPos (by omega) (evPos (by omega) ?_))
    rw [rd_at' (show i - 1 < l.length by omega)]
    refine evBindK (less_eq _ _) ?_
    by_cases hc : ltE l[i - 1] l[i] = true
    · refine evPos hc ?_
      simpa [hc] using ih
    · refine evNeg hc (evSome ?_)
      simp at hc
      simp [hc]
theorem refCheck_l0 (n : Int) (l : List S53) (hl : l.length ≤ 32768) : ∀ (d i : Nat), i + d = l.length →
    Ev (fun k => r4_Check.l0 k (i : Int) n l) (chkL n (if i = 0 then none else some (rd_T53 l ((i : Int) - 1))) (l.drop i)) := by
  intro d
  induction d with
  | zero =>
    intro i hi
    refine evStep (fun k => by rw [r4_Check.l0]) ?_
    refine evNeg (by omega) (evSome ?_)
    rw [List.drop_eq_nil_of_le (by omega)]
    simp only [chkL]
  | succ d ih =>
    intro i hi
    have hlt : i < l.length := by omega
    have IH := ih (i + 1) (by omega)
    rw [if_neg (show ¬ i + 1 = 0 by omega), show ((i + 1 : Nat) : Int) - 1 = (i : Int) by omega, rd_at' hlt] at IH
    have J := refCheck_j2 n l i hlt hl _ IH
    refine evStep (fun k => by rw [r4_Check.l0]) ?_
    rw [rd_at' hlt]
    refine evPos (by omega) (evPos (by omega) ?_)
    rw [List.drop_eq_getElem_cons hlt, chkL_cons]
    have W := within_alt n l[i]
    by_cases h1 : l[i].f0 < 0
    · refine evPos h1 (evEq (J true) ?_)
      rw [if_pos rfl, if_pos (W.2 (.inl h1))]
    · refine evNeg h1 ?_
      by_cases h2 : l[i].f0 ≥ n
      · refine evPos h2 (evEq (J true) ?_)
        rw [if_pos rfl, if_pos (W.2 (.inr (.inl h2)))]
      · refine evNeg h2 ?_
        by_cases h3 : l[i].f1 < 0
        · refine evPos h3 (evEq (J true) ?_)
          rw [if_pos rfl, if_pos (W.2 (.inr (.inr (.inl h3))))]
        · refine evNeg h3 (evEq (J _) ?_)
          by_cases h4 : l[i].f1 ≥ n
          · have e1 : decide (l[i].f1 ≥ n) = true := by simpa using h4
            have e2 : withinB n l[i] = false := W.2 (.inr (.inr (.inr h4)))
            rw [if_pos e1, if_pos e2]
          · have e1 : ¬ decide (l[i].f1 ≥ n) = true := by simpa using h4
            have e2 : ¬ withinB n l[i] = false := fun h => by have := W.1 h; omega
            rw [if_neg e1, if_neg e2]
            rfl
theorem refCheck_ev (n : Int) (l : List S53) : Ev (fun k => r4_Check.f k n l) (chk n l) := by
  unfold r4_Check.f chk
  refine evCase (fun _ => evSome rfl) (fun h0 => evCase (fun h1 => ?_) (fun h1 => ?_))
  · exact evStep (fun k => by rw [r4_Check.j0]) (evPos rfl (evSome rfl))
  · refine evStep (fun k => by rw [r4_Check.j0]) ?_
    by_cases h3 : (l.length : Int) > 32768
    · rw [if_pos h3]
      exact evPos (by simpa using h3) (evSome rfl)
    · rw [if_neg h3]
      refine evNeg (by simpa using h3) ?_
      have := refCheck_l0 n l (by omega) l.length 0 (by omega)
      simpa using this
def nodeB (n : Int) (l : List S53) (v : Int) : Bool := decide (0 ≤ v ∧ v < n ∧ chk n l = 0)
theorem refNode_ev (n : Int) (l : List S53) (v : Int) : Ev (fun k => r4_Node.f k n l v) (nodeB n l v) := by
  unfold r4_Node.f nodeB
  refine evBind (refCheck_ev n l) ?_
  by_cases h : chk n l = 0
  · refine evPos h ?_
    by_cases h1 : v ≥ 0
    · refine evPos h1 (evSome ?_)
      rw [decide_eq_decide]
      omega
    · refine evNeg h1 (evSome ?_)
      exact (decide_eq_false (fun hc => h1 hc.1)).symm
  · refine evNeg h (evSome ?_)
    exact (decide_eq_false (fun hc => h hc.2.2)).symm
theorem take_succ' {α : Type} {l : List α} {i : Nat} (h : i < l.length) : l.take (i + 1) = l.take i ++ [l[i]] := List.take_succ_eq_append_getElem h
theorem succL_take {l : List S53} {v : Int} {i : Nat} (h : i < l.length) : succL (l.take (i + 1)) v = succL (l.take i) v ++ (if l[i].f0 = v then [l[i].f1] else []) := by
  rw [take_succ' h]
  unfold succL
  rw [List.filter_append, List.map_append]
  congr 1
  by_cases e : l[i].f0 = v
  · rw [if_pos e, List.filter_cons_of_pos (by simpa using e)]; rfl
  · rw [if_neg e, List.filter_cons_of_neg (by simpa using e)]; rfl
theorem succL_len (l : List S53) (v : Int) : (succL l v).length ≤ l.length := by
  unfold succL
  rw [List.length_map]
  exact List.length_filter_le _ _
theorem refSucc_l0 (n v : Int) (l : List S53) (hl : l.length ≤ 1000000) : ∀ (d i : Nat), i + d = l.length → Ev (fun k => r4_Succ.l0 k v (succL (l.take i) v) (i : Int) n l) (succL l v) := by
  intro d
  induction d with
  | zero =>
    intro i hi
    refine evStep (fun k => by rw [r4_Succ.l0]) (evNeg (by omega) (evSome ?_))
    rw [List.take_of_length_le (by omega)]
  | succ d ih =>
    intro i hi
    have hlt : i < l.length := by omega
    have hw : wrap64 ((i : Int) + 1) = ((i + 1 : Nat) : Int) := by unfold wrap64; omega
    have IH := ih (i + 1) (by omega)
    rw [succL_take hlt] at IH
    refine evStep (fun k => by rw [r4_Succ.l0]) (evPos (by omega) (evPos (by omega) ?_))
    rw [rd_at' hlt, hw]
    by_cases e : l[i].f0 = v
    · rw [if_pos e] at IH
      refine evPos e (evPos ?_ IH)
      have := succL_len (l.take i) v
      rw [List.length_take] at this
      omega
    · rw [if_neg e, List.append_nil] at IH
      exact evNeg e IH
def succN (n : Int) (l : List S53) (v : Int) : List Int := if 0 ≤ v ∧ v < n ∧ chk n l = 0 then succL l v else []
theorem chk_len {n : Int} {l : List S53} (h : chk n l = 0) : l.length ≤ 32768 := ((chk_zero n l).1 h).len
theorem refSucc_ev (n : Int) (l : List S53) (v : Int) : Ev (fun k => r4_Succ.f k n l v) (succN n l v) := by
  unfold r4_Succ.f succN
  refine evBind (refNode_ev n l v) ?_
  unfold nodeB
  by_cases h : 0 ≤ v ∧ v < n ∧ chk n l = 0
  · rw [if_pos h]
    refine evPos (decide_eq_true h) ?_
    have := refSucc_l0 n v l (by have := chk_len h.2.2; omega) l.length 0 (by omega)
    simpa [succL] using this
  · rw [if_neg h]
    exact evNeg (by simpa using h) (evSome rfl)
end Go.Proofs.YtfgbkklhjocmjaaDoor.Xq
namespace Go.Proofs.YtfgbkklhjocmjaaDoor.Xq
open Go.RowKit Go.Proofs.YtfgbkklhjocmjaaDoorW.PrintWords Go.Proofs.YtfgbkklhjocmjaaDoorW.PrintLast Go.Proofs.YtfgbkklhjocmjaaDoor.Gv
theorem rdN {a : List Int} {i : Nat} (h : i < a.length) : rd a (i : Int) = a[i] := by simp [rd, h]
theorem wrapN {i : Nat} (h : i ≤ 1000000000) : wrap64 ((i : Int) + 1) = ((i + 1 : Nat) : Int) := by unfold wrap64; omega
theorem refIn_l0 (a : List Int) (x : Int) (hl : a.length ≤ 100000000) : ∀ (d i : Nat), i + d = a.length → Ev (fun k => w4_in.l0 k a x (i : Int)) (decide (x ∈ a.drop i)) := by
  intro d
  induction d with
  | zero =>
    intro i hi
    refine evStep (fun k => by rw [w4_in.l0]) (evNeg (by omega) (evSome ?_))
    rw [List.drop_eq_nil_of_le (by omega)]
    simp
  | succ d ih =>
    intro i hi
    have hlt : i < a.length := by omega
    refine evStep (fun k => by rw [w4_in.l0]) (evPos (by omega) (evPos (by omega) ?_))
    rw [rdN hlt, wrapN (by omega), List.drop_eq_getElem_cons hlt]
    by_cases h : a[i] = x
    · refine evPos h (evSome ?_)
      simp [h]
    · refine evNeg h (evEq (ih (i + 1) (by omega)) ?_)
      rw [decide_eq_decide, List.mem_cons]
      exact ⟨.inr, fun hx => hx.resolve_left (fun e => h e.symm)⟩
theorem refIn_ev (a : List Int) (x : Int) (hl : a.length ≤ 100000000) : Ev (fun k => w4_in.f k a x) (decide (x ∈ a)) := by
  have := refIn_l0 a x hl a.length 0 (by omega)
  simpa [w4_in.f] using this
theorem Valid.inn {n : Nat} {l : List S53} (h : Valid n l) : Inn n l := fun v w hw => by
  obtain ⟨a, b, c, d⟩ := h.succ_lt hw
  exact ⟨c, d, a, b⟩
theorem those_len (n : Nat) (p : Nat → Bool) : (those n p).length ≤ n := by
  unfold those
  rw [List.length_map]
  exact Nat.le_trans (List.length_filter_le _ _) (by simp)
def IsReach (n : Nat) (l : List S53) (from_ out : List Int) : Prop := AscI out ∧ ∀ v : Int, v ∈ out ↔ 0 ≤ v ∧ v < n ∧ ∃ s, s ∈ from_ ∧ 0 ≤ s ∧ s < n ∧ Rch l s v
theorem isReach_len {n : Nat} {l : List S53} {from_ out : List Int} (h : IsReach n l from_ out) : out = those n fun x => decide ((x : Int) ∈ out) := ascI_ext h.1 (those_asc _ _) (fun v => by
  rw [mem_those]
  constructor
  · intro hv
    obtain ⟨a, b, _⟩ := (h.2 v).1 hv
    exact ⟨a, b, by simpa [show ((v.toNat : Nat) : Int) = v by omega] using hv⟩
  · rintro ⟨a, b, c⟩
    simpa [show ((v.toNat : Nat) : Int) = v by omega] using c)
theorem IsReach.len {n : Nat} {l : List S53} {from_ out : List Int} (h : IsReach n l from_ out) : out.length ≤ n := by
  rw [isReach_len h]
  exact those_len _ _
theorem reach_is {n : Nat} {l : List S53} (hv : Valid n l) (from_ : List Int) (hf : from_.length ≤ 60000) : ∃ out, IsReach n l from_ out ∧ graph_Reach.f n l from_ = some out := by
  obtain ⟨p, h1, h2⟩ := reach_some hv from_ hf
  refine ⟨_, ⟨those_asc n p, fun v => ?_⟩, h1⟩
  rw [mem_those]
  constructor
  · rintro ⟨a, b, c⟩; exact ⟨a, b, (h2 v a b).1 c⟩
  · rintro ⟨a, b, c⟩; exact ⟨a, b, (h2 v a b).2 c⟩
theorem reach_bad (n : Int) (l : List S53) (h : ¬ chk n l = 0) (from_ : List Int) : graph_Reach.f n l from_ = some [] := by
  unfold graph_Reach.f
  rw [if_neg h]
end Go.Proofs.YtfgbkklhjocmjaaDoor.Xq
namespace Go.Proofs.YtfgbkklhjocmjaaDoor.Xq
open Go.RowKit Go.Shelf Go.Proofs.YtfgbkklhjocmjaaDoorW.PrintWords Go.Proofs.YtfgbkklhjocmjaaDoorW.PrintLast Go.Proofs.YtfgbkklhjocmjaaDoor.Gv
def Behind (out : List Int) (v p : Int) : Prop := ∃ a b, out = a ++ v :: b ∧ p ∈ b
def Desc (l : List S53) : Prop := ∀ v w : Int, w ∈ succL l v → w < v
structure PO (n : Nat) (l : List S53) (root : Int) (gray : Int → Prop) (s : List Bool × List Int) : Prop where
  len : s.1.length = n
  nodes : ∀ v, v ∈ s.2 ∨ gray v → 0 ≤ v ∧ v < n
  seen : ∀ v : Int, 0 ≤ v → v < n → (s.1.getD v.toNat true = true ↔ v ∈ s.2 ∨ gray v)
  dis : ∀ v ∈ s.2, ¬ gray v
  nd : s.2.Nodup
  cl : ∀ v ∈ s.2, ∀ w ∈ succL l v, w ∈ s.2 ∨ gray w
  par : ∀ v ∈ s.2, v ≠ root → ∃ p, v ∈ succL l p ∧ (gray p ∨ Behind s.2 v p)
  rc : ∀ v, v ∈ s.2 ∨ gray v → Rch l root v
  ord : Desc l → ∀ a v b, s.2 = a ++ v :: b → ∀ w ∈ succL l v, w ∈ a
theorem Behind.app {out : List Int} {v p : Int} (h : Behind out v p) (x : Int) : Behind (out ++ [x]) v p := by
  obtain ⟨a, b, rfl, hp⟩ := h
  exact ⟨a, b ++ [x], by simp, by simp [hp]⟩
theorem Behind.last {out : List Int} {v : Int} (h : v ∈ out) (x : Int) : Behind (out ++ [x]) v x := by
  obtain ⟨a, b, rfl⟩ := List.append_of_mem h
  exact ⟨a, b ++ [x], by simp, by simp⟩
theorem getD_set_b {b : List Bool} {i j : Nat} (hi : i < b.length) : (b.set i true).getD j true = if i = j then true else b.getD j true := by
  by_cases h : i = j
  · subst h
    rw [if_pos rfl]
    simp [List.getD, hi]
  · rw [if_neg h]
    simp [List.getD, List.getElem?_set_ne h]
section
variable {n : Nat} {l : List S53} {root : Int}
theorem PO.enter {gray : Int → Prop} {s : List Bool × List Int} (h : PO n l root gray s) {v : Int} (v0 : 0 ≤ v) (v1 : v < n) (hs : s.1.getD v.toNat true = false) (hr : Rch l root v) :
    PO n l root (fun x => gray x ∨ x = v) (s.1.set v.toNat true, s.2) := by
  have hl : v.toNat < s.1.length := by rw [h.len]; omega
  have hns : ¬ (v ∈ s.2 ∨ gray v) := fun hc => by rw [(h.seen v v0 v1).2 hc] at hs; cases hs
  refine ⟨by show (s.1.set _ _).length = n; rw [List.length_set]; exact h.len, ?_, ?_, ?_, h.nd, ?_, ?_, ?_, h.ord⟩
  · rintro x (hx | hx | rfl)
    · exact h.nodes x (.inl hx)
    · exact h.nodes x (.inr hx)
    · exact ⟨v0, v1⟩
  · intro x x0 x1
    show (s.1.set v.toNat true).getD x.toNat true = true ↔ _
    rw [getD_set_b hl]
    by_cases e : v = x
    · subst e
      rw [if_pos rfl]
      simp
    · rw [if_neg (by omega), h.seen x x0 x1]
      constructor
      · rintro (h1 | h1)
        · exact .inl h1
        · exact .inr (.inl h1)
      · rintro (h1 | h1 | h1)
        · exact .inl h1
        · exact .inr h1
        · exact absurd h1.symm e
  · rintro x hx (h1 | rfl)
    · exact h.dis x hx h1
    · exact hns (.inl hx)
  · intro x hx w hw
    rcases h.cl x hx w hw with h1 | h1
    · exact .inl h1
    · exact .inr (.inl h1)
  · intro x hx hxr
    obtain ⟨p, h1, h2 | h2⟩ := h.par x hx hxr
    · exact ⟨p, h1, .inl (.inl h2)⟩
    · exact ⟨p, h1, .inr h2⟩
  · rintro x (hx | hx | rfl)
    · exact h.rc x (.inl hx)
    · exact h.rc x (.inr hx)
    · exact hr
theorem PO.leave {gray : Int → Prop} {s : List Bool × List Int} {v : Int} (h : PO n l root (fun x => gray x ∨ x = v) s) (hg : ¬ gray v) (hc : ∀ w ∈ succL l v, w ∈ s.2 ∨ gray w ∨ w = v)
    (hp : v = root ∨ ∃ p, gray p ∧ v ∈ succL l p) (hd : Desc l → ∀ g, gray g → v ≤ g) : PO n l root gray (s.1, s.2 ++ [v]) := by
  refine ⟨h.len, ?_, ?_, ?_, ?_, ?_, ?_, ?_, ?_⟩
  · rintro x (hx | hx)
    · rcases List.mem_append.1 hx with hx | hx
      · exact h.nodes x (.inl hx)
      · exact h.nodes x (.inr (.inr (List.mem_singleton.1 hx)))
    · exact h.nodes x (.inr (.inl hx))
  · intro x x0 x1
    show s.1.getD x.toNat true = true ↔ x ∈ s.2 ++ [v] ∨ gray x
    rw [h.seen x x0 x1, List.mem_append, List.mem_singleton]
    constructor
    · rintro (h1 | h1 | h1)
      · exact .inl (.inl h1)
      · exact .inr h1
      · exact .inl (.inr h1)
    · rintro ((h1 | h1) | h1)
      · exact .inl h1
      · exact .inr (.inr h1)
      · exact .inr (.inl h1)
  · intro x hx hgx
    rcases List.mem_append.1 hx with hx | hx
    · exact h.dis x hx (.inl hgx)
    · rw [List.mem_singleton.1 hx] at hgx; exact hg hgx
  · show (s.2 ++ [v]).Nodup
    rw [List.nodup_append]
    refine ⟨h.nd, by simp, fun a ha b hb e => ?_⟩
    rw [List.mem_singleton] at hb
    subst hb
    subst e
    exact h.dis a ha (.inr rfl)
  · intro x hx w hw
    show w ∈ s.2 ++ [v] ∨ gray w
    rw [List.mem_append, List.mem_singleton]
    have : w ∈ s.2 ∨ gray w ∨ w = v := by
      rcases List.mem_append.1 hx with hx | hx
      · exact h.cl x hx w hw
      · rw [List.mem_singleton.1 hx] at hw; exact hc w hw
    rcases this with h1 | h1 | h1
    · exact .inl (.inl h1)
    · exact .inr h1
    · exact .inl (.inr h1)
  · intro x hx hxr
    show ∃ p, x ∈ succL l p ∧ (gray p ∨ Behind (s.2 ++ [v]) x p)
    rcases List.mem_append.1 hx with hy | hx
    · obtain ⟨p, h1, h2⟩ := h.par x hy hxr
      rcases h2 with (h2 | e) | h2
      · exact ⟨p, h1, .inl h2⟩
      · rw [e] at h1
        exact ⟨v, h1, .inr (Behind.last hy v)⟩
      · exact ⟨p, h1, .inr (h2.app v)⟩
    · rw [List.mem_singleton] at hx
      subst hx
      rcases hp with h1 | ⟨p, h1, h2⟩
      · exact absurd h1 hxr
      · exact ⟨p, h2, .inl h1⟩
  · rintro x (hx | hx)
    · rcases List.mem_append.1 hx with hx | hx
      · exact h.rc x (.inl hx)
      · exact h.rc x (.inr (.inr (List.mem_singleton.1 hx)))
    · exact h.rc x (.inr (.inl hx))
  · intro hD a x b hab w hw
    have hab : s.2 ++ [v] = a ++ x :: b := hab
    rcases List.eq_nil_or_concat b with rfl | ⟨b', y, rfl⟩
    · obtain ⟨e1, e2⟩ := List.append_inj' hab rfl
      have e2 : v = x := by simpa using e2
      subst e1
      subst e2
      rcases hc w hw with h1 | h1 | h1
      · exact h1
      · have := hD v w hw
        have := hd hD w h1
        omega
      · have := hD v w hw
        omega
    · rw [List.concat_eq_append, ← List.cons_append, ← List.append_assoc] at hab
      obtain ⟨e1, e2⟩ := List.append_inj' hab rfl
      exact h.ord hD a x b' e1 w hw
def Vis (n : Nat) (l : List S53) (root : Int) (k : Nat) : Prop := ∀ (gray : Int → Prop) (s : List Bool × List Int) (v : Int), PO n l root gray s → 0 ≤ v → v < n → s.1.getD v.toNat true = false → cnt s.1 ≤ k → Rch l root v →
  (v = root ∨ ∃ p, gray p ∧ v ∈ succL l p) → (Desc l → ∀ g, gray g → v ≤ g) → PO n l root gray (visT l k v s) ∧ v ∈ (visT l k v s).2 ∧ s.2 <+: (visT l k v s).2
theorem vis_fold {k : Nat} (hV : Vis n l root k) (hE : Inn n l) {gray : Int → Prop} {v : Int} (hv : gray v) (hr : Rch l root v) (hd : Desc l → ∀ g, gray g → v ≤ g) : ∀ (xs : List Int) (s : List Bool × List Int), (∀ x ∈ xs, x ∈ succL l v) → PO n l root gray s → cnt s.1 ≤ k →
    PO n l root gray (xs.foldl (vstep l k) s) ∧ (∀ x ∈ xs, x ∈ (xs.foldl (vstep l k) s).2 ∨ gray x) ∧ s.2 <+: (xs.foldl (vstep l k) s).2 := by
  intro xs
  induction xs with
  | nil => intro s _ h _; exact ⟨h, by simp, List.prefix_refl _⟩
  | cons x xs ih =>
    intro s hx h hc
    rw [List.foldl_cons]
    have hxs := hx x List.mem_cons_self
    obtain ⟨_, _, x0, x1⟩ := hE v x hxs
    obtain ⟨h1, h2, h3, h4⟩ : PO n l root gray (vstep l k s x) ∧ (x ∈ (vstep l k s x).2 ∨ gray x) ∧ s.2 <+: (vstep l k s x).2 ∧ cnt (vstep l k s x).1 ≤ k := by
      unfold vstep
      by_cases hs : s.1.getD x.toNat true = true
      · rw [if_pos hs]
        exact ⟨h, (h.seen x x0 x1).1 hs, List.prefix_refl _, hc⟩
      · rw [if_neg hs]
        have hs : s.1.getD x.toNat true = false := by simpa using hs
        obtain ⟨a, b, c⟩ := hV gray s x h x0 x1 hs hc (hr.step hxs) (.inr ⟨v, hv, hxs⟩) (fun hD g hg => by
          have := hD v x hxs
          have := hd hD g hg
          omega)
        have := (visT_keep l k x s hs).2.1
        exact ⟨a, .inl b, c, by omega⟩
    obtain ⟨g1, g2, g3⟩ := ih (vstep l k s x) (fun y hy => hx y (List.mem_cons_of_mem _ hy)) h1 h4
    refine ⟨g1, fun y hy => ?_, h3.trans g3⟩
    rcases List.mem_cons.1 hy with rfl | hy
    · rcases h2 with h2 | h2
      · exact .inl (g3.subset h2)
      · exact .inr h2
    · exact g2 y hy
theorem vis_all (hE : Inn n l) : ∀ k, Vis n l root k := by
  intro k
  induction k with
  | zero =>
    intro gray s v h v0 v1 hs hc
    have := cnt_pos hs
    omega
  | succ k ih =>
    intro gray s v h v0 v1 hs hc hr hp hd
    rw [visT_succ]
    have hg : ¬ gray v := fun hg => by rw [(h.seen v v0 v1).2 (.inr hg)] at hs; cases hs
    have h1 := h.enter v0 v1 hs hr
    have hc1 := cnt_set hs
    obtain ⟨g1, g2, g3⟩ := vis_fold ih hE (v := v) (.inr rfl) hr (fun hD g hg => by
      rcases hg with hg | rfl
      · exact hd hD g hg
      · exact Int.le_refl _) (succL l v) _ (fun _ hx => hx) h1 (by show cnt (s.1.set v.toNat true) ≤ k; omega)
    exact ⟨g1.leave hg g2 hp hd, by simp, g3.trans (List.prefix_append _ _)⟩
theorem PO.start (n : Nat) (l : List S53) (root : Int) : PO n l root (fun _ => False) (List.replicate n false, []) := by
  refine ⟨by simp, by simp, ?_, by simp, by simp, by simp, by simp, by simp, by simp⟩
  intro v v0 v1
  have : v.toNat < n := by omega
  simp [List.getD, this]
end
structure Post (n : Nat) (l : List S53) (root : Int) (out : List Int) : Prop where
  mem : ∀ v, v ∈ out ↔ Rch l root v
  nodes : ∀ v ∈ out, 0 ≤ v ∧ v < n
  nd : out.Nodup
  last : out.getLast? = some root
  par : ∀ v ∈ out, v ≠ root → ∃ p, v ∈ succL l p ∧ Behind out v p
  ord : Desc l → ∀ a v b, out = a ++ v :: b → ∀ w ∈ succL l v, w ∈ a
theorem post_spec {n : Nat} {l : List S53} (hE : Inn n l) {root : Int} (r0 : 0 ≤ root) (r1 : root < n) : Post n l root (visT l n root (List.replicate n false, [])).2 := by
  obtain ⟨m, rfl⟩ : ∃ m, n = m + 1 := ⟨n - 1, by omega⟩
  have hs : (List.replicate (m + 1) false).getD root.toNat true = false := by
    have : root.toNat < m + 1 := by omega
    simp only [List.getD, List.getElem?_replicate, this, if_true, Option.getD_some]
  obtain ⟨h1, h2, h3⟩ := vis_all hE (m + 1) (fun _ => False) (List.replicate (m + 1) false, []) root (PO.start (m + 1) l root) r0 r1 hs (by simp [cnt, List.countP_replicate]) (Rch.refl _ _) (.inl rfl) (fun _ g hg => hg.elim)
  refine ⟨fun v => ⟨fun h => h1.rc v (.inl h), fun h => ?_⟩, fun v hv => h1.nodes v (.inl hv), h1.nd, ?_, fun v hv hr => ?_, h1.ord⟩
  · exact Rch.closed (P := fun v => v ∈ (visT l (m + 1) root (List.replicate (m + 1) false, [])).2) (fun v hv w hw => (h1.cl v hv w hw).resolve_right id) h h2
  · rw [visT_succ]
    simp
  · obtain ⟨p, h4, h5 | h5⟩ := h1.par v hv hr
    · exact h5.elim
    · exact ⟨p, h4, h5⟩
end Go.Proofs.YtfgbkklhjocmjaaDoor.Xq
namespace Go.Proofs.YtfgbkklhjocmjaaDoor.Xq
open Go.RowKit Go.Proofs.YtfgbkklhjocmjaaDoorW.PrintWords Go.Proofs.YtfgbkklhjocmjaaDoorW.PrintLast Go.Proofs.YtfgbkklhjocmjaaDoor.Gv
def postN (n : Int) (l : List S53) (root : Int) : List Int := if 0 ≤ root ∧ root < n ∧ chk n l = 0 then (visT l n.toNat root (List.replicate n.toNat false, [])).2 else []
theorem post_some (n : Int) (l : List S53) (root : Int) : graph_Postorder.f n l root = some (postN n l root) := rfl
theorem post_len {n : Nat} {l : List S53} (hv : Valid n l) {root : Int} (h0 : 0 ≤ root) (h1 : root < n) : Post n l root (postN n l root) := by
  unfold postN
  rw [if_pos ⟨h0, h1, (chk_zero _ _).2 hv⟩, Int.toNat_natCast]
  exact post_spec hv.inn h0 h1
end Go.Proofs.YtfgbkklhjocmjaaDoor.Xq
namespace Go.Proofs.YtfgbkklhjocmjaaDoor.Xq
open Go.RowKit Go.Proofs.YtfgbkklhjocmjaaDoorW.PrintWords Go.Proofs.YtfgbkklhjocmjaaDoorW.PrintLast Go.Proofs.YtfgbkklhjocmjaaDoor.Gv
theorem succN_len (n : Int) (l : List S53) (v : Int) : (succN n l v).length ≤ l.length := by
  unfold succN
  split
  · exact succL_len l v
  · simp
theorem evAwake : Ev (fun _ => w4_awake.f.bind fun t => some t) true := evBindK awake_eq (evSome rfl)
theorem postN_len (n : Int) (l : List S53) (root : Int) : ((postN n l root).length : Int) ≤ 8192 := by
  unfold postN
  split
  · next h =>
    obtain ⟨h0, h1, h2⟩ := h
    have hn := ((chk_zero n l).1 h2).n1
    have hs : (List.replicate n.toNat false).getD root.toNat true = false := by
      have : root.toNat < n.toNat := by omega
      simp only [List.getD, List.getElem?_replicate, this, if_true, Option.getD_some]
    have := (visT_keep l n.toNat root (List.replicate n.toNat false, []) hs).2.2
    have e := cnt_rep n.toNat
    simp only [List.length_nil] at this
    omega
  · simp
end Go.Proofs.YtfgbkklhjocmjaaDoor.Xq
namespace Go.Proofs.YtfgbkklhjocmjaaDoor.Xq
open Go.RowKit Go.Proofs.YtfgbkklhjocmjaaDoorW.PrintWords Go.Proofs.YtfgbkklhjocmjaaDoorW.PrintLast Go.Proofs.YtfgbkklhjocmjaaDoor.Gv
structure OrdOk (n : Int) (l : List S53) (root : Int) (o all : List Int) : Prop where
  len : o.length = all.length
  last : o ≠ [] → o.getLast? = some root
  sub : ∀ x ∈ o, x ∈ all
  nd : o.Nodup
  ord : chk n l = 0 → Desc l → ∀ a v b, o = a ++ v :: b → ∀ w ∈ succN n l v, w ∈ a
  hi : o.length ≤ 8192
section
variable {n root : Int} {l : List S53} {o all : List Int}
theorem GraphOrder_j5f (b : Bool) (i : Int) : Ev (fun k => w4_GraphOrder.j5 k o b i false n l) true :=
  evStep (fun k => by rw [w4_GraphOrder.j5]) (evNeg (by simp) evAwake)
theorem GraphOrder_l3 (h : OrdOk n l root o all) (hl : l.length ≤ 300) (b : Bool) (i : Nat) (hi : i < o.length) (ss : List Int) (hs : ∀ w ∈ ss, w ∈ o.take i) (hsl : ss.length ≤ 300) (rest : Ev (fun k => w4_GraphOrder.l2 k o b ((i + 1 : Nat) : Int) n l) true) :
    ∀ (d j : Nat), j + d = ss.length → Ev (fun k => w4_GraphOrder.l3 k o b (i : Int) ss (j : Int) n l) true := by
  intro d
  have hh := h.hi
  induction d with
  | zero =>
    intro j hj
    refine evStep (fun k => by rw [w4_GraphOrder.l3]) (evNeg (by omega) ?_)
    rw [wrapN (by omega)]
    exact rest
  | succ d ih =>
    intro j hj
    have hlt : j < ss.length := by omega
    refine evStep (fun k => by rw [w4_GraphOrder.l3]) (evPos (by omega) (evPos (by omega) (evPos (by omega) (evPos (by omega) ?_))))
    rw [Int.toNat_natCast, rdN hlt, wrapN (by omega)]
    exact evBind (evEq (refIn_ev _ _ (by simp; omega)) (decide_eq_true (hs _ (List.getElem_mem hlt)))) (evPos rfl (ih (j + 1) (by omega)))
theorem GraphOrder_l2 (h : OrdOk n l root o all) (hl : l.length ≤ 300) (b : Bool) (hb : b = true → chk n l = 0 ∧ Desc l) : ∀ (d i : Nat), i + d = o.length → Ev (fun k => w4_GraphOrder.l2 k o b (i : Int) n l) true := by
  intro d
  have hh := h.hi
  induction d with
  | zero =>
    intro i hi
    exact evStep (fun k => by rw [w4_GraphOrder.l2]) (evNeg (by omega) (GraphOrder_j5f b _))
  | succ d ih =>
    intro i hi
    have hlt : i < o.length := by omega
    refine evStep (fun k => by rw [w4_GraphOrder.l2]) (evPos (by omega) ?_)
    cases b with
    | false => exact GraphOrder_j5f _ _
    | true =>
      obtain ⟨hc, hD⟩ := hb rfl
      refine evStep (fun k => by rw [w4_GraphOrder.j5]) (evPos rfl (evPos (by omega) (evPos (by omega) ?_)))
      rw [rdN hlt]
      have hs := succN_len n l o[i]
      refine evBind (refSucc_ev n l o[i]) ?_
      refine GraphOrder_l3 h hl true i hlt _ (fun w hw => ?_) (by omega) (ih (i + 1) (by omega)) (succN n l o[i]).length 0 (by omega)
      refine h.ord hc hD (o.take i) o[i] (o.drop (i + 1)) ?_ w hw
      rw [← List.drop_eq_getElem_cons hlt, List.take_append_drop]
theorem GraphOrder_l1 (h : OrdOk n l root o all) (hl : l.length ≤ 300) : ∀ (d i : Nat) (b : Bool), i + d = l.length → (b = true → chk n l = 0 ∧ ∀ x ∈ l.take i, x.f1 < x.f0) → Ev (fun k => w4_GraphOrder.l1 k o b (i : Int) n l) true := by
  intro d
  induction d with
  | zero =>
    intro i b hi hb
    refine evStep (fun k => by rw [w4_GraphOrder.l1]) (evNeg (by omega) ?_)
    refine GraphOrder_l2 h hl b (fun e => ?_) o.length 0 (by omega)
    obtain ⟨h1, h2⟩ := hb e
    rw [List.take_of_length_le (by omega)] at h2
    exact ⟨h1, fun v w hw => h2 _ (mem_succL.1 hw)⟩
  | succ d ih =>
    intro i b hi hb
    have hlt : i < l.length := by omega
    refine evStep (fun k => by rw [w4_GraphOrder.l1]) (evPos (by omega) ?_)
    rw [rd_at' hlt, wrapN (by omega)]
    cases b with
    | false => exact evNeg (by simp) (ih (i + 1) false (by omega) (fun e => by cases e))
    | true =>
      refine evPos rfl (evPos (by omega) (ih (i + 1) _ (by omega) (fun e => ?_)))
      obtain ⟨h1, h2⟩ := hb rfl
      refine ⟨h1, fun x hx => ?_⟩
      rw [take_succ' hlt, List.mem_append, List.mem_singleton] at hx
      rcases hx with hx | rfl
      · exact h2 x hx
      · simpa using e
theorem GraphOrder_l0 (h : OrdOk n l root o all) (hl : l.length ≤ 300) : ∀ (d i : Nat), i + d = o.length → Ev (fun k => w4_GraphOrder.l0 k o all (i : Int) n l) true := by
  intro d
  have hh := h.hi
  have hla := h.len
  induction d with
  | zero =>
    intro i hi
    refine evStep (fun k => by rw [w4_GraphOrder.l0]) (evNeg (by omega) (evBind (refCheck_ev n l) ?_))
    exact GraphOrder_l1 h hl l.length 0 _ (by omega) (fun e => ⟨by simpa using e, by simp⟩)
  | succ d ih =>
    intro i hi
    have hlt : i < o.length := by omega
    refine evStep (fun k => by rw [w4_GraphOrder.l0]) (evPos (by omega) (evPos (by omega) ?_))
    rw [rdN hlt, Int.toNat_natCast, wrapN (by omega)]
    refine evBind (evEq (refIn_ev all o[i] (by omega)) (decide_eq_true (h.sub _ (List.getElem_mem hlt)))) (evPos rfl (evPos (by omega) ?_))
    refine evBind (evEq (refIn_ev (o.take i) o[i] (by simp; omega)) (decide_eq_false (fun hm => ?_))) (evNeg (by simp) (ih (i + 1) (by omega)))
    obtain ⟨j, hj, e⟩ := List.getElem_of_mem hm
    rw [List.length_take] at hj
    rw [List.getElem_take] at e
    have := (List.nodup_iff_pairwise_ne.1 h.nd)
    rw [List.pairwise_iff_getElem] at this
    exact this j i (by omega) hlt (by omega) e
theorem GraphOrder_run (h : OrdOk n l root o all) (hl : l.length ≤ 300) (ho : graph_Postorder.f n l root = some o) (ha : graph_Reach.f n l [root] = some all) : Ev (fun k => w4_GraphOrder.j0 k root false n l) true := by
  have hh := h.hi
  have hla := h.len
  have J : ∀ b : Bool, b = false → Ev (fun k => w4_GraphOrder.j1 k o all b n l) true := fun b hb => by
    subst hb
    have L0 := GraphOrder_l0 h hl o.length 0 (by omega)
    refine evStep (fun k => by rw [w4_GraphOrder.j1]) ?_
    exact evNeg (by simp) L0
  have hle : (o.length : Int) = (all.length : Int) := by omega
  refine evStep (fun k => by rw [w4_GraphOrder.j0]) (evNeg (by simp) (evBindK ho (evBindK ha (evPos hle ?_))))
  by_cases hp : (o.length : Int) > 0
  · have w2 : wrap64 ((o.length : Int) - 1) = ((o.length - 1 : Nat) : Int) := by unfold wrap64; omega
    rw [w2]
    refine evPos hp (evPos (by omega) (evPos (by omega) (J _ ?_)))
    have hL := h.last (fun e => by subst e; simp at hp)
    rw [List.getLast?_eq_getElem?, List.getElem?_eq_getElem (by omega)] at hL
    rw [rdN (show o.length - 1 < o.length by omega), Option.some.inj hL]
    simp
  · exact evNeg hp (J _ rfl)
end
theorem GraphOrder_pure (n : Int) (l : List S53) (root : Int) : ∃ k, w4_GraphOrder.f k n l root = some true := by
  refine Ev.rounds ?_
  have J : Ev (fun k => w4_GraphOrder.j0 k root true n l) true := evStep (fun k => by rw [w4_GraphOrder.j0]) (evPos rfl evAwake)
  unfold w4_GraphOrder.f
  by_cases h : (l.length : Int) > 300
  · exact evPos h J
  refine evNeg h ?_
  by_cases h1 : n > 300
  · rw [show decide (n > 300) = true by simpa using h1]
    exact J
  rw [show decide (n > 300) = false by simpa using h1]
  by_cases hc : chk n l = 0
  · have hv := (chk_zero n l).1 hc
    obtain ⟨m, rfl⟩ := Int.eq_ofNat_of_zero_le hv.n0
    obtain ⟨all, g1, g2⟩ := reach_is hv [root] (by simp)
    by_cases hr : 0 ≤ root ∧ root < m
    · obtain ⟨r0, r1⟩ := hr
      have P := post_len hv r0 r1
      have ho := postN_len m l root
      have hmem : ∀ x, x ∈ postN m l root ↔ x ∈ all := fun x => by
        rw [P.mem, g1.2]
        constructor
        · intro hx
          obtain ⟨a, b⟩ := P.nodes x ((P.mem x).2 hx)
          exact ⟨a, b, root, by simp, r0, r1, hx⟩
        · rintro ⟨_, _, s, hs, _, _, hx⟩
          obtain rfl : s = root := by simpa using hs
          exact hx
      refine GraphOrder_run (o := postN m l root) (all := all) ⟨((List.perm_ext_iff_of_nodup P.nd (ascI_nodup g1.1)).2 hmem).length_eq, fun _ => P.last, fun x hx => (hmem x).1 hx, P.nd, fun _ hD a v b hab w hw => ?_, by omega⟩ (by omega) (post_some _ _ _) g2
      unfold succN at hw
      split at hw
      · exact P.ord hD a v b hab w hw
      · cases hw
    · have e : all = [] := List.eq_nil_iff_forall_not_mem.2 (fun x hx => by
        obtain ⟨_, _, s, hs, s0, s1, _⟩ := (g1.2 x).1 hx
        obtain rfl : s = root := by simpa using hs
        exact hr ⟨s0, s1⟩)
      subst e
      refine GraphOrder_run (o := []) (all := []) ⟨rfl, fun h => absurd rfl h, by simp, by simp, fun _ _ a v b hab => by simp at hab, by simp⟩ (by omega) ?_ g2
      rw [post_some, postN, if_neg (fun h => hr ⟨h.1, h.2.1⟩)]
  · refine GraphOrder_run (o := []) (all := []) ⟨rfl, fun h => absurd rfl h, by simp, by simp, fun _ _ a v b hab => by simp at hab, by simp⟩ (by omega) ?_ (reach_bad n l hc [root])
    rw [post_some, postN, if_neg (fun h => hc h.2.2)]
end Go.Proofs.YtfgbkklhjocmjaaDoor.Xq
namespace Go.Proofs.YtfgbkklhjocmjaaDoor.graphOrder
open Go.ChangeShapes Go.WideShapes Go.ChangeAt Go.RowKit
open Go.ChangeMaps (open_string shut_string)
theorem own : ownKnob Tryd.prog.godebug = none := by kernel_rfl
theorem laidOut : laidOutB Tryd.prog = true := by kernel_rfl
set_option maxRecDepth 100000 in
theorem lifted (os : Os) (started : os.Started) (H : Type) (enc : TypeId × Value → H) :
    ReturnsInHanded {} Tryd.checked os 10 .any (fun w args => (Rows.graphOrderSpec.pre enc Tryd.prog Tryd.f10 [] false w args ∧ laidMetH Tryd.prog Xq.laidT w) ∧ sizedMet enc Tryd.prog Tryd.f10 (OpenSpec.ofChange Rows.graphOrderSpec) false w args) (Rows.graphOrderSpec.post enc Tryd.prog Tryd.f10 false true false false) := by
  refine returnsInHanded_of_change_and (C := Tryd.checked) (X := fun w _ => laidMetH Tryd.prog Xq.laidT w) (fun _ _ _ hh h => h.of_heap hh) own started (by kernel_rfl) Tryd.func10
    (ChangeSpec.witness_shaped (enc := enc) (C := Tryd.checked) (os := os) (X := fun w _ => laidMetH Tryd.prog Xq.laidT w) false (World.doorLaid Tryd.prog 400 os) #[.agg #[.int .i64 0, .slice none 0 0], .int .i64 0] 8 rfl (World.shaped_of_RefB (by kernel_rfl) (by kernel_rfl)) (by kernel_rfl) (by kernel_rfl) (by kernel_rfl) (Xq.door_met os _)) ?_
  intro W base args ds gs before hval0 hW _ hsz0 hL _
  have hsz : (DataW.weightsEach Tryd.prog (Tryd.f10.params.toList ++ Rows.graphOrderSpec.plain.varTypes Tryd.prog) (ds ++ gs)).all (· ≤ reachBytes) = true := hsz0
  have hval : ∀ (j : Nat) t v, Tryd.f10.params[j]? = some t → args[j]? = some v → Value.okWide Tryd.prog W .any base t v := hval0
  have hG := Xq.tabW_of_met hL
  have hW' := hW
  obtain ⟨p, q, hA0, hV, rfl, hfz, hnd⟩ := hW
  have hA : DataW.TrodAll enc Tryd.prog W 0 (fun _ => true) true Tryd.f10.params.toList args.toList ds p := hA0
  rw [Tryd.params10] at hA hval hsz
  obtain ⟨v0, vs0, d0, ds0, p0, q0, hargs, rfl, rfl, h0, r0⟩ := trodAll_cons hA
  obtain ⟨v1, vs1, d1, ds1, p1, q1, rfl, rfl, rfl, h1, r1⟩ := trodAll_cons r0
  obtain ⟨rfl, rfl, rfl⟩ := trodAll_nil r1
  obtain rfl : args = #[v0, v1] := by cases args; simp_all
  obtain ⟨rfl, rfl⟩ := trodVars_none hV
  have k0 := h0
  have lt0 : ∀ x ∈ p0, x.block < W.heap.size := by obtain ⟨m, hm⟩ := k0; exact DataW.trod_lt m _ _ _ hm
  obtain ⟨n0, A0, len0, cap0, l0, rfl, rfl, hcap0, hs0, hC0, hw0⟩ := Xq.open_graph hsz (j := 0) rfl rfl (hval 0 24 v0 rfl rfl) h0
  obtain ⟨a1, rfl, rfl, rfl, w1⟩ := open_int Tryd.underlying3 (hval 1 3 v1 rfl rfl) h1
  clear hA0 hval0 hsz0 hsz
  obtain ⟨k, hk⟩ := Xq.GraphOrder_pure n0 l0 a1
  refine (Xq.w4_GraphOrder.calls k n0 A0 cap0 l0 a1 true W hC0 hcap0 hG hk).mono fun e W' ⟨he, bel⟩ => ?_
  subst he
  exact ⟨_, rfl, _, _, _, [], _, [], hW', trodAll_mk1 (shut_bool Tryd.underlying4 _), (trodAll_cons_mk (Below.trod laidOut (by kernel_rfl) (of_decide_eq_true (by kernel_rfl)) k0 bel lt0) (trodAll_cons_mk (shut_int Tryd.underlying3 w1) trodAll_mk0)), rfl, bel.frame _, fun h => by cases h⟩
theorem over : Rows.graphOrderRow.holds Tryd.pinned (OpenSpec.ofChange Rows.graphOrderSpec) :=
  OpenClaim.holds_of_wide 10 Tryd.f10 rfl rfl rfl rfl rfl rfl rfl ⟨rfl, rfl, rfl, rfl, rfl⟩ rfl rfl rfl rfl rfl (by kernel_rfl) Tryd.func10 (by kernel_rfl)
    (of_decide_eq_true (by kernel_rfl)) (by unfold Func.isWrapper; first | (rw [if_pos (by decide +kernel)]; kernel_rfl) | (rw [if_neg (by decide +kernel)]; exact ⟨rfl, rfl⟩))
    (fun os started H enc _ => lifted os started H enc)
theorem card : Rows.GraphOrderCardSaid :=
  Claim7.holds_tied_plain_at .later [] [.data] true (true, "6edfda05db3e9c87ed9ac05de1d998720f094d24bf1f98e6008bbf5273ecd797") false
    over (fun _ h => by cases h) (by kernel_rfl) (fun _ h => by cases h) graphOrder_row_tie rfl ⟨rfl, rfl⟩ (by kernel_rfl) rfl
    (fun f fn hf hfn => by
      obtain rfl : f = 10 := Option.some.inj ((show Tryd.prog.funcNamed "dataflow/dataflowlaw04.GraphOrder" = some 10 by kernel_rfl).symm.trans hf) |>.symm
      obtain rfl : fn = Tryd.f10 := (Option.some.inj (Tryd.func10.symm.trans hfn)).symm
      exact ⟨by kernel_rfl, fun j t ht => by
        rw [Tryd.params10] at ht
        have hm : t ∈ [24, 3] := by simpa using Array.mem_of_getElem? ht
        have hall : ([24, 3].all fun u => !Tryd.prog.wantsStandIn u) = true := by kernel_rfl
        exact (show Tryd.prog.wantsStandIn t = false by simpa using List.all_eq_true.1 hall t hm)⟩)
    (by kernel_rfl)
#print axioms card
end Go.Proofs.YtfgbkklhjocmjaaDoor.graphOrder
namespace Go.Proofs.YtfgbkklhjocmjaaDoor
theorem graphOrder_holds : Rows.GraphOrderCardSaid := graphOrder.card
end Go.Proofs.YtfgbkklhjocmjaaDoor
