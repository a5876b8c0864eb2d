/- Joined by a program out of this work's texts and the print's (what the law needs of them): GvQ1, GvQ2, GvP2, GvP3, GvQ3, GvP4, GvP5, GvP7, LawGraphReverses. -/
import Derived.Test.YtfgbkklhjocmjaaDoorKg5
import Derived.Test.YtfgbkklhjocmjaaDoorTie
import Derived.Test.YtfgbkklhjocmjaaDoorCards
import Derived.WalkKit
import Derived.ProofKit
import Derived.OpenShut
import Derived.ShutString
import Derived.ChangeOld
import Derived.Below
import Derived.SizedLaws
import Derived.SevenTiedAt
set_option linter.unusedVariables false
set_option linter.unusedSimpArgs false
namespace Go.Proofs.YtfgbkklhjocmjaaDoor.Xq
open Go.RowKit Go.Shelf Go.Proofs.YtfgbkklhjocmjaaDoorW.PrintWords Go.Proofs.YtfgbkklhjocmjaaDoorW.PrintLast Go.Proofs.YtfgbkklhjocmjaaDoor.Gv
theorem mem_succL {l : List S53} {v w : Int} : w ∈ succL l v ↔ (⟨v, w⟩ : S53) ∈ l := by
  unfold succL
  rw [List.mem_map]
  constructor
  · rintro ⟨x, hx, rfl⟩
    rw [List.mem_filter] at hx
    obtain ⟨h1, h2⟩ := hx
    have h2 : x.f0 = v := by simpa using h2
    subst h2
    exact h1
  · intro h
    exact ⟨_, List.mem_filter.2 ⟨h, by simp⟩, rfl⟩
inductive Way (l : List S53) : Nat → Int → Int → Prop
  | nil (v : Int) : Way l 0 v v
  | snoc {k : Nat} {v w x : Int} : Way l k v w → x ∈ succL l w → Way l (k + 1) v x
def Rch (l : List S53) (v w : Int) : Prop := ∃ k, Way l k v w
theorem Rch.refl (l : List S53) (v : Int) : Rch l v v := ⟨0, .nil v⟩
theorem Rch.step {l : List S53} {v w x : Int} (h : Rch l v w) (hx : x ∈ succL l w) : Rch l v x := h.elim fun k hk => ⟨k + 1, hk.snoc hx⟩
theorem Way.trans {l : List S53} {j : Nat} {u v : Int} (h : Way l j u v) : ∀ {k : Nat} {w : Int}, Way l k v w → Way l (j + k) u w
  | _, _, .nil _ => h
  | _, _, .snoc h1 hx => .snoc (h.trans h1) hx
theorem Rch.trans {l : List S53} {u v w : Int} (h : Rch l u v) (k : Rch l v w) : Rch l u w := by
  obtain ⟨a, ha⟩ := h
  obtain ⟨b, hb⟩ := k
  exact ⟨a + b, ha.trans hb⟩
theorem Way.cons {l : List S53} {u v : Int} (hx : v ∈ succL l u) {k : Nat} {w : Int} (h : Way l k v w) : Way l (k + 1) u w := by
  have := (Way.snoc (Way.nil u) hx).trans h
  rwa [show 0 + 1 + k = k + 1 by omega] at this
def negs (far : List Int) : Nat := far.countP fun x => decide (x < 0)
theorem negs_set : ∀ {b : List Int} {i : Nat} {x : Int}, b.getD i 0 < 0 → 0 ≤ x → negs (b.set i x) + 1 = negs b
  | [], i, x, h, _ => by simp at h
  | y :: r, 0, x, h, hx => by
    have h : y < 0 := by simpa using h
    unfold negs
    rw [List.set_cons_zero, List.countP_cons_of_neg (by simpa using hx), List.countP_cons_of_pos (by simpa using h)]
  | y :: r, i + 1, x, h, hx => by
    have ih := negs_set (b := r) (i := i) (x := x) (by simpa using h) hx
    unfold negs at ih ⊢
    rw [List.set_cons_succ, List.countP_cons, List.countP_cons]
    omega
theorem negs_le (far : List Int) : negs far ≤ far.length := List.countP_le_length
theorem rd_set {xs : List Int} {i j : Int} {x : Int} (hi : 0 ≤ i) (hj : 0 ≤ j) (hl : i < xs.length) : rd (xs.set i.toNat x) j = if i = j then x else rd xs j := by
  unfold rd
  by_cases h : i = j
  · subst h
    rw [if_pos rfl]
    have : i.toNat < xs.length := by omega
    simp [List.getD, this]
  · have : i.toNat ≠ j.toNat := by omega
    rw [if_neg h]
    simp [List.getD, List.getElem?_set_ne this]
def Inn (n : Nat) (l : List S53) : Prop := ∀ v w : Int, w ∈ succL l v → 0 ≤ v ∧ v < n ∧ 0 ≤ w ∧ w < n
structure BF (n : Nat) (l : List S53) (src : Int → Prop) (N : Int) (far work : List Int) : Prop where
  len : far.length = n
  wk : ∀ v ∈ work, 0 ≤ v ∧ v < n ∧ 0 ≤ rd far v
  bd : ∀ v : Int, 0 ≤ v → v < n → rd far v + negs far ≤ N
  lo : ∀ v : Int, 0 ≤ v → v < n → -1 ≤ rd far v
  cl : ∀ v : Int, 0 ≤ v → v < n → 0 ≤ rd far v → v ∉ work → ∀ w ∈ succL l v, 0 ≤ rd far w ∧ rd far w ≤ rd far v + 1
  srt : work.Pairwise fun a b => rd far a ≤ rd far b
  hd : ∀ h ∈ work.head?, ∀ v : Int, 0 ≤ v → v < n → rd far v ≤ rd far h + 1
  st : ∀ v : Int, 0 ≤ v → v < n → 0 ≤ rd far v → v ∉ work → ∀ h ∈ work, rd far v ≤ rd far h
  so : ∀ v : Int, 0 ≤ v → v < n → 0 ≤ rd far v → (rd far v = 0 ∧ src v) ∨ ∃ u : Int, 0 ≤ u ∧ u < n ∧ v ∈ succL l u ∧ 0 ≤ rd far u ∧ rd far v = rd far u + 1
  ss : ∀ v : Int, src v → 0 ≤ v → v < n → rd far v = 0
  nd : work.Nodup
section
variable {n : Nat} {l : List S53} {src : Int → Prop} {N : Int} {far : List Int}
theorem BF.push {v w : Int} {r : List Int} (h : BF n l src N far (v :: r)) (hN : N ≤ 1000000) (hE : Inn n l) (hw : w ∈ succL l v) (hf : rd far w < 0) :
    BF n l src N (far.set w.toNat (wrap64 (rd far v + 1))) (v :: (r ++ [w])) ∧ negs (far.set w.toNat (wrap64 (rd far v + 1))) + 1 = negs far := by
  obtain ⟨_, _, w0, w1⟩ := hE v w hw
  obtain ⟨v0, v1, v2⟩ := h.wk v List.mem_cons_self
  have hb := h.bd v v0 v1
  have e : wrap64 (rd far v + 1) = rd far v + 1 := by unfold wrap64; omega
  rw [e]
  have hlw : w < far.length := by rw [h.len]; exact w1
  have hneg : negs (far.set w.toNat (rd far v + 1)) + 1 = negs far := negs_set (by unfold rd at hf; exact hf) (by omega)
  have R : ∀ u : Int, 0 ≤ u → rd (far.set w.toNat (rd far v + 1)) u = if w = u then rd far v + 1 else rd far u := fun u hu => rd_set w0 hu hlw
  have same : ∀ u : Int, 0 ≤ u → 0 ≤ rd far u → rd (far.set w.toNat (rd far v + 1)) u = rd far u := fun u hu hs => by
    rw [R u hu, if_neg (fun e => by subst e; omega)]
  have hmem : ∀ u ∈ v :: r, rd (far.set w.toNat (rd far v + 1)) u = rd far u := fun u hu => same u (h.wk u hu).1 (h.wk u hu).2.2
  have hcons : v :: (r ++ [w]) = (v :: r) ++ [w] := rfl
  have hwn : w ∉ v :: r := fun hm => by have := (h.wk w hm).2.2; omega
  refine ⟨⟨by rw [List.length_set]; exact h.len, ?_, ?_, ?_, ?_, ?_, ?_, ?_, ?_, ?_, ?_⟩, hneg⟩
  · intro u hu
    rw [hcons, List.mem_append, List.mem_singleton] at hu
    rcases hu with hu | rfl
    · rw [hmem u hu]; exact h.wk u hu
    · rw [R u w0, if_pos rfl]; exact ⟨w0, w1, by omega⟩
  · intro u u0 u1
    rw [R u u0]
    split
    · omega
    · have := h.bd u u0 u1; omega
  · intro u u0 u1
    rw [R u u0]
    split
    · omega
    · exact h.lo u u0 u1
  · intro u u0 u1 u2 hu x hx
    rw [hcons, List.mem_append, List.mem_singleton, not_or] at hu
    rw [R u u0, if_neg (Ne.symm hu.2)] at u2 ⊢
    obtain ⟨h1, h2⟩ := h.cl u u0 u1 u2 hu.1 x hx
    rw [same x (hE u x hx).2.2.1 h1]
    exact ⟨h1, h2⟩
  · rw [hcons, List.pairwise_append]
    refine ⟨?_, List.pairwise_singleton _ _, ?_⟩
    · refine List.Pairwise.imp_of_mem ?_ h.srt
      intro a b ha hb hab
      rw [hmem a ha, hmem b hb]
      exact hab
    · intro a ha b hb
      rw [List.mem_singleton] at hb
      subst hb
      rw [hmem a ha, R b w0, if_pos rfl]
      exact h.hd v rfl a (h.wk a ha).1 (h.wk a ha).2.1
  · intro a ha u u0 u1
    obtain rfl : v = a := by simpa using ha
    rw [hmem v List.mem_cons_self, R u u0]
    split
    · omega
    · exact h.hd v rfl u u0 u1
  · intro u u0 u1 u2 hu a ha
    rw [hcons, List.mem_append, List.mem_singleton, not_or] at hu
    rw [R u u0, if_neg (Ne.symm hu.2)] at u2 ⊢
    rw [hcons, List.mem_append, List.mem_singleton] at ha
    rcases ha with ha | rfl
    · rw [hmem a ha]; exact h.st u u0 u1 u2 hu.1 a ha
    · rw [R a w0, if_pos rfl]
      have := h.st u u0 u1 u2 hu.1 v List.mem_cons_self
      omega
  · intro u u0 u1 u2
    rw [R u u0] at u2 ⊢
    by_cases e : w = u
    · subst e
      rw [if_pos rfl]
      exact .inr ⟨v, v0, v1, hw, by rw [hmem v List.mem_cons_self]; exact v2, by rw [hmem v List.mem_cons_self]⟩
    · rw [if_neg e] at u2 ⊢
      rcases h.so u u0 u1 u2 with h1 | ⟨y, y0, y1, y2, y3, y4⟩
      · exact .inl h1
      · exact .inr ⟨y, y0, y1, y2, by rw [same y y0 y3]; exact y3, by rw [same y y0 y3]; exact y4⟩
  · intro u hs u0 u1
    have := h.ss u hs u0 u1
    rw [same u u0 (by omega), this]
  · rw [hcons, List.nodup_append]
    refine ⟨h.nd, by simp, ?_⟩
    intro a ha b hb e
    rw [List.mem_singleton] at hb
    subst hb
    subst e
    exact hwn ha
theorem BF.bstep {v w : Int} {r : List Int} (h : BF n l src N far (v :: r)) (hN : N ≤ 1000000) (hE : Inn n l) (hw : w ∈ succL l v) :
    BF n l src N (bstep v (far, r) w).1 (v :: (bstep v (far, r) w).2) ∧ negs (bstep v (far, r) w).1 + (bstep v (far, r) w).2.length = negs far + r.length ∧
      rd (bstep v (far, r) w).1 v = rd far v ∧ 0 ≤ rd (bstep v (far, r) w).1 w ∧ (∀ u : Int, 0 ≤ u → 0 ≤ rd far u → rd (bstep v (far, r) w).1 u = rd far u) ∧ (∀ x ∈ r, x ∈ (bstep v (far, r) w).2) := by
  obtain ⟨_, _, w0, w1⟩ := hE v w hw
  obtain ⟨v0, v1, v2⟩ := h.wk v List.mem_cons_self
  have hb := h.bd v v0 v1
  have e : wrap64 (rd far v + 1) = rd far v + 1 := by unfold wrap64; omega
  have hlw : w < far.length := by rw [h.len]; exact w1
  unfold Xq.bstep
  by_cases hf : rd far w < 0
  · rw [if_pos (show rd (far, r).1 w < 0 from hf)]
    obtain ⟨h1, h2⟩ := h.push hN hE hw hf
    refine ⟨h1, by simp; omega, ?_, ?_, ?_, by simp; intro x hx; exact .inl hx⟩
    · show rd (far.set w.toNat (wrap64 (rd far v + 1))) v = rd far v
      rw [rd_set w0 v0 hlw, if_neg (fun e => by subst e; omega)]
    · show 0 ≤ rd (far.set w.toNat (wrap64 (rd far v + 1))) w
      rw [rd_set w0 w0 hlw, if_pos rfl, e]
      omega
    · intro u u0 u1
      show rd (far.set w.toNat (wrap64 (rd far v + 1))) u = rd far u
      rw [rd_set w0 u0 hlw, if_neg (fun e => by subst e; omega)]
  · rw [if_neg (show ¬ rd (far, r).1 w < 0 from hf)]
    exact ⟨h, rfl, rfl, by show 0 ≤ rd far w; omega, fun _ _ _ => rfl, fun _ hx => hx⟩
theorem BF.bsteps {v : Int} (hN : N ≤ 1000000) (hE : Inn n l) : ∀ (xs : List Int) (far r : List Int), (∀ x ∈ xs, x ∈ succL l v) → BF n l src N far (v :: r) →
    BF n l src N (xs.foldl (Xq.bstep v) (far, r)).1 (v :: (xs.foldl (Xq.bstep v) (far, r)).2) ∧ negs (xs.foldl (Xq.bstep v) (far, r)).1 + (xs.foldl (Xq.bstep v) (far, r)).2.length = negs far + r.length ∧
      (∀ x ∈ xs, 0 ≤ rd (xs.foldl (Xq.bstep v) (far, r)).1 x) ∧ (∀ u : Int, 0 ≤ u → 0 ≤ rd far u → rd (xs.foldl (Xq.bstep v) (far, r)).1 u = rd far u) := by
  intro xs
  induction xs with
  | nil => intro far r _ h; exact ⟨h, rfl, by simp, fun _ _ _ => rfl⟩
  | cons x xs ih =>
    intro far r hx h
    rw [List.foldl_cons]
    have hxs := hx x List.mem_cons_self
    obtain ⟨h1, h2, h3, h4, h5, h6⟩ := h.bstep hN hE hxs
    obtain ⟨g1, g2, g3, g4⟩ := ih _ _ (fun y hy => hx y (List.mem_cons_of_mem _ hy)) h1
    rw [Prod.eta] at g1 g2 g3 g4
    refine ⟨g1, by omega, ?_, ?_⟩
    · intro y hy
      rcases List.mem_cons.1 hy with rfl | hy
      · rw [g4 y (hE v y hxs).2.2.1 h4]; exact h4
      · exact g3 y hy
    · intro u u0 u1
      rw [g4 u u0 (by rw [h5 u u0 u1]; exact u1), h5 u u0 u1]
theorem BF.round {v : Int} {r : List Int} (h : BF n l src N far (v :: r)) (hN : N ≤ 1000000) (hE : Inn n l) :
    BF n l src N ((succL l v).foldl (Xq.bstep v) (far, r)).1 ((succL l v).foldl (Xq.bstep v) (far, r)).2 ∧
      negs ((succL l v).foldl (Xq.bstep v) (far, r)).1 + ((succL l v).foldl (Xq.bstep v) (far, r)).2.length = negs far + r.length := by
  obtain ⟨h1, h2, h3, h4⟩ := BF.bsteps hN hE (succL l v) far r (fun _ hx => hx) h
  refine ⟨?_, h2⟩
  generalize (succL l v).foldl (Xq.bstep v) (far, r) = s at h1 h2 h3 h4 ⊢
  obtain ⟨v0, v1, v2⟩ := h1.wk v List.mem_cons_self
  have hnd := List.nodup_cons.1 h1.nd
  have hp := List.pairwise_cons.1 h1.srt
  refine ⟨h1.len, fun u hu => h1.wk u (List.mem_cons_of_mem _ hu), h1.bd, h1.lo, ?_, hp.2, ?_, ?_, h1.so, h1.ss, hnd.2⟩
  · intro u u0 u1 u2 hu w hw
    by_cases e : u = v
    · subst e
      exact ⟨h3 w hw, h1.hd u rfl w (hE u w hw).2.2.1 (hE u w hw).2.2.2⟩
    · exact h1.cl u u0 u1 u2 (by rw [List.mem_cons, not_or]; exact ⟨e, hu⟩) w hw
  · intro a ha u u0 u1
    have ham : a ∈ s.2 := by
      cases hs : s.2 with
      | nil => rw [hs] at ha; simp at ha
      | cons b t => rw [hs] at ha; simp at ha; simp [ha]
    have := h1.hd v rfl u u0 u1
    have := hp.1 a ham
    omega
  · intro u u0 u1 u2 hu a ha
    by_cases e : u = v
    · subst e; exact hp.1 a ha
    · exact h1.st u u0 u1 u2 (by rw [List.mem_cons, not_or]; exact ⟨e, hu⟩) a (List.mem_cons_of_mem _ ha)
theorem BF.run (hN : N ≤ 1000000) (hE : Inn n l) (hn : n ≤ 100000) : ∀ (k : Nat) (far work : List Int), BF n l src N far work → negs far + work.length < k → negs far + work.length ≤ n →
    ∃ ws, distF l k (far, work) = some ws ∧ BF n l src N ws [] := by
  intro k
  induction k with
  | zero => intro far work h hk; omega
  | succ k ih =>
    intro far work h hk hn2
    match work, h, hk, hn2 with
    | [], h, hk, hn2 => exact ⟨far, rfl, h⟩
    | v :: r, h, hk, hn2 =>
      obtain ⟨h1, h2⟩ := h.round hN hE
      rw [List.length_cons] at hk hn2
      obtain ⟨ws, h3, h4⟩ := ih _ _ h1 (by omega) (by omega)
      refine ⟨ws, ?_, h4⟩
      unfold distF
      simp only
      rw [if_pos (by omega), ← h3]
theorem BF.back {ws : List Int} (h : BF n l src N ws []) : ∀ (d : Nat) (v : Int), 0 ≤ v → v < n → rd ws v = d → ∃ s, src s ∧ 0 ≤ s ∧ s < n ∧ Way l d s v
  | 0, v, v0, v1, hd => by
    rcases h.so v v0 v1 (by omega) with ⟨_, h1⟩ | ⟨u, _, _, _, h2, h3⟩
    · exact ⟨v, h1, v0, v1, .nil _⟩
    · omega
  | d + 1, v, v0, v1, hd => by
    rcases h.so v v0 v1 (by omega) with ⟨h1, _⟩ | ⟨u, u0, u1, u2, h2, h3⟩
    · omega
    · obtain ⟨s, h4, h5, h6, h7⟩ := h.back d u u0 u1 (by omega)
      exact ⟨s, h4, h5, h6, h7.snoc u2⟩
end
structure BI (n : Nat) (src : Int → Prop) (far work : List Int) : Prop where
  len : far.length = n
  lo : ∀ v : Int, 0 ≤ v → v < n → rd far v = -1 ∨ rd far v = 0
  wk : ∀ v : Int, v ∈ work ↔ (0 ≤ v ∧ v < n ∧ rd far v = 0)
  so : ∀ v : Int, 0 ≤ v → v < n → (rd far v = 0 ↔ src v)
  nd : work.Nodup
  cnt : negs far + work.length ≤ n
theorem BI.mono {n : Nat} {src src' : Int → Prop} {far work : List Int} (h : BI n src far work) (hs : ∀ v : Int, 0 ≤ v → v < n → (src v ↔ src' v)) : BI n src' far work :=
  ⟨h.len, h.lo, h.wk, fun v v0 v1 => (h.so v v0 v1).trans (hs v v0 v1), h.nd, h.cnt⟩
theorem rd_rep {n : Nat} {x v : Int} (v0 : 0 ≤ v) (v1 : v < n) : rd (List.replicate n x) v = x := by
  have : v.toNat < n := by omega
  unfold rd
  simp [List.getD, this]
theorem BI.start (n : Nat) : BI n (fun _ => False) (List.replicate n (-1)) [] := by
  refine ⟨by simp, fun v v0 v1 => .inl (rd_rep v0 v1), ?_, ?_, List.nodup_nil, ?_⟩
  · intro v
    constructor
    · intro h; cases h
    · rintro ⟨a, b, c⟩
      rw [rd_rep a b] at c
      omega
  · intro v v0 v1
    rw [rd_rep v0 v1]
    simp
  · have := negs_le (List.replicate n (-1 : Int))
    rw [List.length_replicate] at this
    simpa using this
end Go.Proofs.YtfgbkklhjocmjaaDoor.Xq
namespace Go.Proofs.YtfgbkklhjocmjaaDoor.Xq
open Go.RowKit Go.Shelf Go.Proofs.YtfgbkklhjocmjaaDoorW.PrintWords Go.Proofs.YtfgbkklhjocmjaaDoorW.PrintLast Go.Proofs.YtfgbkklhjocmjaaDoor.Gv
def AscI (l : List Int) : Prop := l.Pairwise fun a b => a < b
theorem ascI_ext : ∀ {l m : List Int}, AscI l → AscI m → (∀ x, x ∈ l ↔ x ∈ m) → l = m
  | [], [], _, _, _ => rfl
  | [], y :: m, _, _, h => absurd ((h y).2 List.mem_cons_self) (by simp)
  | x :: l, [], _, _, h => absurd ((h x).1 List.mem_cons_self) (by simp)
  | x :: l, y :: m, hl, hm, h => by
    obtain ⟨h1, h2⟩ := List.pairwise_cons.1 hl
    obtain ⟨h3, h4⟩ := List.pairwise_cons.1 hm
    have e : x = y := by
      rcases List.mem_cons.1 ((h x).1 List.mem_cons_self) with e | e
      · exact e
      · rcases List.mem_cons.1 ((h y).2 List.mem_cons_self) with e' | e'
        · exact e'.symm
        · have := h1 y e'
          have := h3 x e
          omega
    subst e
    rw [ascI_ext h2 h4 (fun z => ?_)]
    constructor
    · intro hz
      rcases List.mem_cons.1 ((h z).1 (List.mem_cons_of_mem _ hz)) with e | e
      · have := h1 z hz; omega
      · exact e
    · intro hz
      rcases List.mem_cons.1 ((h z).2 (List.mem_cons_of_mem _ hz)) with e | e
      · have := h3 z hz; omega
      · exact e
def those (n : Nat) (p : Nat → Bool) : List Int := ((List.range n).filter p).map fun x : Nat => (x : Int)
theorem mem_those {n : Nat} {p : Nat → Bool} {v : Int} : v ∈ those n p ↔ 0 ≤ v ∧ v < n ∧ p v.toNat = true := by
  unfold those
  rw [List.mem_map]
  constructor
  · rintro ⟨x, hx, rfl⟩
    rw [List.mem_filter, List.mem_range] at hx
    exact ⟨by omega, by omega, by simpa using hx.2⟩
  · rintro ⟨a, b, c⟩
    exact ⟨v.toNat, List.mem_filter.2 ⟨List.mem_range.2 (by omega), c⟩, by omega⟩
theorem those_asc (n : Nat) (p : Nat → Bool) : AscI (those n p) := by
  unfold those AscI
  rw [List.pairwise_map]
  refine List.Pairwise.imp (R := fun a b : Nat => a < b) (fun {a b} h => by omega) ?_
  exact List.Pairwise.filter _ List.pairwise_lt_range
theorem listW_eq : ∀ (ws : List Nat) (i : Nat), (∀ y ∈ ws, y < 18446744073709551616) →
    listW i ws = ((List.range' (i * 64) (64 * ws.length)).filter fun x => (ws.getD (x / 64 - i) 0).testBit (x % 64)).map fun x : Nat => (x : Int)
  | [], i, _ => by simp [listW]
  | y :: r, i, h => by
    have h1 := bitsL_eq y (h y (by simp))
    have h2 := listW_eq r (i + 1) (fun z hz => h z (by simp [hz]))
    have e : List.range' (i * 64) (64 * (y :: r).length) = List.range' (i * 64) 64 ++ List.range' ((i + 1) * 64) (64 * r.length) := by
      rw [List.length_cons, show 64 * (r.length + 1) = 64 + 64 * r.length by omega, show (i + 1) * 64 = i * 64 + 1 * 64 by omega, List.range'_append]
    rw [listW, e, List.filter_append, List.map_append, h1, h2]
    congr 1
    · have e2 : List.range' (i * 64) 64 = (List.range 64).map fun b => i * 64 + b := by
        rw [List.range_eq_range', List.map_add_range']
        simp
      rw [e2, List.filter_map, List.map_map]
      congr 1
      apply List.filter_congr
      intro b hb
      have hb : b < 64 := List.mem_range.1 hb
      show _ = ((y :: r).getD ((i * 64 + b) / 64 - i) 0).testBit ((i * 64 + b) % 64)
      rw [show (i * 64 + b) / 64 - i = 0 by omega, show (i * 64 + b) % 64 = b by omega]
      rfl
    · congr 1
      apply List.filter_congr
      intro x hx
      have := (List.mem_range'_1.1 hx).1
      rw [show x / 64 - i = (x / 64 - (i + 1)) + 1 by omega]
      rfl
theorem listW_those (ws : List Nat) (h : ∀ y ∈ ws, y < 18446744073709551616) : listW 0 ws = those (64 * ws.length) (hasN ws) := by
  rw [listW_eq ws 0 h]
  unfold those
  rw [List.range_eq_range', Nat.zero_mul]
  rfl
def free (n : Nat) (ws : List Nat) : Nat := (List.range n).countP fun x => !hasN ws x
theorem free_le (n : Nat) (ws : List Nat) : free n ws ≤ n := by
  have := @List.countP_le_length _ (fun x => !hasN ws x) (List.range n)
  rwa [List.length_range] at this
theorem countP_one {p q : Nat → Bool} {v : Nat} (hp : p v = true) (hq : ∀ x, q x = (p x && decide (x ≠ v))) : ∀ n : Nat, (List.range n).countP q + (if v < n then 1 else 0) = (List.range n).countP p
  | 0 => by simp
  | n + 1 => by
    have ih := countP_one hp hq n
    rw [List.range_succ, List.countP_append, List.countP_append, List.countP_singleton, List.countP_singleton, hq n]
    rcases Nat.lt_trichotomy v n with h | h | h
    · rw [if_pos h] at ih
      rw [if_pos (show v < n + 1 by omega), show decide (n ≠ v) = true by simp; omega, Bool.and_true]
      omega
    · subst h
      rw [if_neg (Nat.lt_irrefl v)] at ih
      rw [if_pos (show v < v + 1 by omega), hp, show decide (v ≠ v) = false by simp, Bool.and_false]
      simp
      omega
    · rw [if_neg (show ¬ v < n by omega)] at ih
      rw [if_neg (show ¬ v < n + 1 by omega), show decide (n ≠ v) = true by simp; omega, Bool.and_true]
      omega
theorem free_set {n : Nat} {ws : List Nat} {v : Nat} (hl : v / 64 < ws.length) (hv : v < n) (hn : hasN ws v = false) : free n (setN ws v) + 1 = free n ws := by
  have := countP_one (p := fun x => !hasN ws x) (q := fun x => !hasN (setN ws v) x) (v := v) (by simp [hn]) (fun x => by
    rw [hasN_setN ws v x hl]
    simp) n
  rw [if_pos hv] at this
  exact this
structure Adds (n : Nat) (ws : List Nat) (wk : List Int) (xs : List Int) (s : List Nat × List Int) : Prop where
  len : s.1.length = ws.length
  lt : ∀ y ∈ s.1, y < 18446744073709551616
  has : ∀ x : Nat, hasN s.1 x = true ↔ hasN ws x = true ∨ ((x : Int) ∈ xs ∧ x < n)
  mem : ∀ v : Int, v ∈ s.2 ↔ v ∈ wk ∨ (v ∈ xs ∧ 0 ≤ v ∧ v < n ∧ hasN ws v.toNat = false)
  cnt : free n s.1 + s.2.length = free n ws + wk.length
theorem addFs_spec (n : Nat) : ∀ (xs : List Int) (ws : List Nat) (wk : List Int), ws.length = n / 64 + 1 → (∀ y ∈ ws, y < 18446744073709551616) → Adds n ws wk xs (xs.foldl (addF n) (ws, wk)) := by
  intro xs
  induction xs with
  | nil => intro ws wk hl hlt; exact ⟨rfl, hlt, fun x => by simp, fun v => by simp, rfl⟩
  | cons x xs ih =>
    intro ws wk hl hlt
    rw [List.foldl_cons]
    by_cases hx : 0 ≤ x ∧ x < n ∧ hasN ws x.toNat = false
    · have e : addF n (ws, wk) x = (setN ws x.toNat, wk ++ [x]) := by unfold addF; rw [if_pos hx]
      rw [e]
      obtain ⟨x0, x1, x2⟩ := hx
      have hq : x.toNat / 64 < ws.length := by omega
      have hs := fun y => hasN_setN ws x.toNat y hq
      obtain ⟨h1, h2, h3, h4, h5⟩ := ih (setN ws x.toNat) (wk ++ [x]) (by rw [setN_len, hl]) (setN_lt ws x.toNat hlt)
      refine ⟨by rw [h1, setN_len], h2, fun y => ?_, fun v => ?_, ?_⟩
      · rw [h3, hs]
        simp only [Bool.or_eq_true, decide_eq_true_eq, List.mem_cons]
        constructor
        · rintro ((h | rfl) | ⟨h, g⟩)
          · exact .inl h
          · exact .inr ⟨.inl (by omega), by omega⟩
          · exact .inr ⟨.inr h, g⟩
        · rintro (h | ⟨h | h, g⟩)
          · exact .inl (.inl h)
          · exact .inl (.inr (by omega))
          · exact .inr ⟨h, g⟩
      · rw [h4, hs, List.mem_append, List.mem_singleton, List.mem_cons, Bool.or_eq_false_iff, decide_eq_false_iff_not]
        constructor
        · rintro ((h | rfl) | ⟨h, g0, g1, g2, g3⟩)
          · exact .inl h
          · exact .inr ⟨.inl rfl, x0, x1, x2⟩
          · exact .inr ⟨.inr h, g0, g1, g2⟩
        · rintro (h | ⟨h | h, g0, g1, g2⟩)
          · exact .inl (.inl h)
          · exact .inl (.inr h)
          · by_cases e : v = x
            · exact .inl (.inr e)
            · exact .inr ⟨h, g0, g1, g2, by omega⟩
      · have := free_set hq (show x.toNat < n by omega) x2
        rw [h5, List.length_append, List.length_singleton]
        omega
    · have e : addF n (ws, wk) x = (ws, wk) := by unfold addF; rw [if_neg hx]
      rw [e]
      obtain ⟨h1, h2, h3, h4, h5⟩ := ih ws wk hl hlt
      refine ⟨h1, h2, fun y => ?_, fun v => ?_, h5⟩
      · rw [h3, List.mem_cons]
        constructor
        · rintro (h | ⟨h, g⟩)
          · exact .inl h
          · exact .inr ⟨.inr h, g⟩
        · rintro (h | ⟨h | h, g⟩)
          · exact .inl h
          · subst h
            have h2 : ¬ hasN ws y = false := fun h2 => hx ⟨by omega, by omega, by simpa using h2⟩
            exact .inl (by simpa using h2)
          · exact .inr ⟨h, g⟩
      · rw [h4, List.mem_cons]
        constructor
        · rintro (h | ⟨h, g⟩)
          · exact .inl h
          · exact .inr ⟨.inr h, g⟩
        · rintro (h | ⟨h | h, g⟩)
          · exact .inl h
          · subst h; exact absurd g hx
          · exact .inr ⟨h, g⟩
structure RF (n : Nat) (l : List S53) (src : Int → Prop) (ws : List Nat) (wk : List Int) : Prop where
  len : ws.length = n / 64 + 1
  lt : ∀ y ∈ ws, y < 18446744073709551616
  rg : ∀ x : Nat, hasN ws x = true → x < n
  wkn : ∀ v ∈ wk, 0 ≤ v ∧ hasN ws v.toNat = true
  cl : ∀ x : Nat, hasN ws x = true → (x : Int) ∉ wk → ∀ w ∈ succL l x, hasN ws w.toNat = true
  so : ∀ x : Nat, hasN ws x = true → ∃ s, src s ∧ 0 ≤ s ∧ s < n ∧ Rch l s x
  ss : ∀ s, src s → 0 ≤ s → s < n → hasN ws s.toNat = true
theorem RF.round {n : Nat} {l : List S53} {src : Int → Prop} {ws : List Nat} {r : List Int} {v : Int} (hE : Inn n l) (h : RF n l src ws (r ++ [v])) :
    RF n l src ((succL l v).foldl (addF n) (ws, r)).1 ((succL l v).foldl (addF n) (ws, r)).2 ∧ free n ((succL l v).foldl (addF n) (ws, r)).1 + ((succL l v).foldl (addF n) (ws, r)).2.length = free n ws + r.length := by
  have a := addFs_spec n (succL l v) ws r h.len h.lt
  generalize (succL l v).foldl (addF n) (ws, r) = s at a ⊢
  obtain ⟨v0, hv⟩ := h.wkn v (by simp)
  have up : ∀ x : Nat, hasN ws x = true → hasN s.1 x = true := fun x hx => (a.has x).2 (.inl hx)
  have sc : ∀ w ∈ succL l v, hasN s.1 w.toNat = true := fun w hw => by
    obtain ⟨_, _, w0, w1⟩ := hE v w hw
    exact (a.has _).2 (.inr ⟨by rwa [show ((w.toNat : Nat) : Int) = w by omega], by omega⟩)
  refine ⟨⟨a.len.trans h.len, a.lt, ?_, ?_, ?_, ?_, fun s hs s0 s1 => up _ (h.ss s hs s0 s1)⟩, a.cnt⟩
  · intro x hx
    rcases (a.has x).1 hx with h1 | ⟨_, h1⟩
    · exact h.rg x h1
    · exact h1
  · intro w hw
    rcases (a.mem w).1 hw with h1 | ⟨h1, h2, h3, h4⟩
    · obtain ⟨h2, h3⟩ := h.wkn w (by simp [h1])
      exact ⟨h2, up _ h3⟩
    · exact ⟨h2, sc w h1⟩
  · intro x hx hxn w hw
    have hxr : (x : Int) ∉ r := fun hm => hxn ((a.mem _).2 (.inl hm))
    by_cases e : (x : Int) = v
    · rw [e] at hw; exact sc w hw
    · rcases (a.has x).1 hx with h1 | ⟨h1, h2⟩
      · exact up _ (h.cl x h1 (by simp [hxr, e]) w hw)
      · by_cases hn : hasN ws x = true
        · exact up _ (h.cl x hn (by simp [hxr, e]) w hw)
        · exact absurd ((a.mem _).2 (.inr ⟨h1, by omega, by omega, by simpa using hn⟩)) hxn
  · intro x hx
    rcases (a.has x).1 hx with h1 | ⟨h1, h2⟩
    · exact h.so x h1
    · obtain ⟨s, g1, g2, g3, g4⟩ := h.so v.toNat hv
      rw [show ((v.toNat : Nat) : Int) = v by omega] at g4
      exact ⟨s, g1, g2, g3, g4.step h1⟩
theorem RF.run {n : Nat} {l : List S53} {src : Int → Prop} (hE : Inn n l) (hn : n ≤ 100000) : ∀ (k : Nat) (ws : List Nat) (wk : List Int), RF n l src ws wk → free n ws + wk.length < k → free n ws + wk.length ≤ n →
    ∃ r, reachF n l k (ws, wk) = some r ∧ RF n l src r [] := by
  intro k
  induction k with
  | zero => intro ws wk h hk; omega
  | succ k ih =>
    intro ws wk h hk hn2
    unfold reachF
    by_cases he : wk = []
    · subst he
      exact ⟨ws, by rw [if_pos rfl], h⟩
    · rw [if_neg he, if_pos (show wk.length ≤ 100000 by omega)]
      obtain ⟨r, v, rfl⟩ : ∃ r v, wk = r ++ [v] := ⟨wk.dropLast, wk.getLast he, (List.dropLast_concat_getLast he).symm⟩
      obtain ⟨h1, h2⟩ := h.round hE
      rw [List.length_append, List.length_singleton] at hk hn2
      simp only [List.getLast?_concat, Option.getD_some, List.dropLast_concat]
      exact ih _ _ h1 (by omega) (by omega)
theorem hasN_rep (m x : Nat) : hasN (List.replicate m 0) x = false := by
  have : (List.replicate m 0).getD (x / 64) 0 = 0 := by
    rw [List.getD_eq_getElem?_getD, List.getElem?_replicate]
    split <;> rfl
  unfold hasN
  rw [this, Nat.zero_testBit]
theorem reach_some {n : Nat} {l : List S53} (hv : Valid n l) (from_ : List Int) (hf : from_.length ≤ 60000) : ∃ p : Nat → Bool, graph_Reach.f n l from_ = some (those n p) ∧ ∀ v : Int, 0 ≤ v → v < n → (p v.toNat = true ↔ ∃ s, s ∈ from_ ∧ 0 ≤ s ∧ s < n ∧ Rch l s v) := by
  have hn : (n : Int) ≤ 8192 := hv.n1
  have hE : Inn n l := fun v w hw => by
    obtain ⟨a, b, c, d⟩ := hv.succ_lt hw
    exact ⟨c, d, a, b⟩
  have a := addFs_spec n from_ (List.replicate (n / 64 + 1) 0) [] (by simp) (fun y hy => by
    rw [List.mem_replicate] at hy
    omega)
  have hfr := free_le n (List.replicate (n / 64 + 1) 0)
  have h0 : RF n l (fun s => s ∈ from_) (from_.foldl (addF n) (List.replicate (n / 64 + 1) 0, [])).1 (from_.foldl (addF n) (List.replicate (n / 64 + 1) 0, [])).2 := by
    have hh : ∀ x : Nat, hasN (from_.foldl (addF n) (List.replicate (n / 64 + 1) 0, [])).1 x = true ↔ ((x : Int) ∈ from_ ∧ x < n) := fun x => by
      rw [a.has, hasN_rep]
      simp
    refine ⟨by rw [a.len]; simp, a.lt, fun x hx => ((hh x).1 hx).2, ?_, ?_, ?_, ?_⟩
    · intro v hv
      rcases (a.mem v).1 hv with h1 | ⟨h1, h2, h3, h4⟩
      · cases h1
      · exact ⟨h2, (hh _).2 ⟨by rwa [show ((v.toNat : Nat) : Int) = v by omega], by omega⟩⟩
    · intro x hx hxn
      obtain ⟨h1, h2⟩ := (hh x).1 hx
      exact absurd ((a.mem _).2 (.inr ⟨h1, by omega, by omega, hasN_rep _ _⟩)) hxn
    · intro x hx
      obtain ⟨h1, h2⟩ := (hh x).1 hx
      exact ⟨x, h1, by omega, by omega, Rch.refl _ _⟩
    · intro s hs s0 s1
      exact (hh _).2 ⟨by rwa [show ((s.toNat : Nat) : Int) = s by omega], by omega⟩
  obtain ⟨r, h1, h2⟩ := RF.run hE (by omega) 10000 _ _ h0 (by rw [a.cnt]; simp; omega) (by rw [a.cnt]; simp; exact hfr)
  rw [Prod.eta] at h1
  refine ⟨hasN r, ?_, ?_⟩
  · unfold graph_Reach.f
    rw [if_pos ((chk_zero _ _).2 hv), if_pos hf, Int.toNat_natCast, h1, Option.map_some, listW_those r h2.lt]
    congr 1
    refine ascI_ext (those_asc _ _) (those_asc _ _) (fun v => ?_)
    rw [mem_those, mem_those]
    constructor
    · rintro ⟨a, b, c⟩
      have := h2.rg _ c
      exact ⟨a, by omega, c⟩
    · rintro ⟨a, b, c⟩
      have := h2.len
      exact ⟨a, by omega, c⟩
  · intro v v0 v1
    constructor
    · intro h
      have := h2.so _ h
      rwa [show ((v.toNat : Nat) : Int) = v by omega] at this
    · rintro ⟨s, g1, g2, g3, k, g4⟩
      have hs := h2.ss s g1 g2 g3
      clear g1 g3
      induction g4 with
      | nil => exact hs
      | snoc hw hx ih =>
        obtain ⟨c, d, _, _⟩ := hE _ _ hx
        have h3 := ih c d g2 hs
        refine h2.cl _ h3 (by simp) _ ?_
        rwa [show ((_ : Int).toNat : Int) = _ from Int.toNat_of_nonneg c]
end Go.Proofs.YtfgbkklhjocmjaaDoor.Xq
namespace Go.Proofs.YtfgbkklhjocmjaaDoor.Xq
open Go.RowKit Go.Proofs.YtfgbkklhjocmjaaDoorW.PrintWords Go.Proofs.YtfgbkklhjocmjaaDoorW.PrintLast Go.Proofs.YtfgbkklhjocmjaaDoor.Gv
theorem refCheck_j2 (n : Int) (l : List S53) (i : Nat) (hi : i < l.length) (hl : l.length ≤ 32768) (R : Int) (ih : Ev (fun k => r4_Check.l0 k ((i + 1 : Nat) : Int) n l) R) :
    ∀ b : Bool, Ev (fun k => r4_Check.j2 k (i : Int) b n l l[i].f0 l[i].f1) (if b = true then 4 else if (match (if i = 0 then none else some (rd_T53 l ((i : Int) - 1))) with | none => false | some y => !ltE y l[i]) = true then 13 else R) := by
  intro b
  refine evStep (fun k => by rw [r4_Check.j2]) ?_
  refine evCase (fun _ => evSome rfl) (fun _ => ?_)
  have hw : wrap64 ((i : Int) + 1) = ((i + 1 : Nat) : Int) := by unfold wrap64; omega
  rw [hw]
  by_cases h0 : i = 0
  · subst h0
    refine evNeg (by omega) ?_
    rw [if_pos rfl]
    simpa using ih
  · have hw2 : wrap64 ((i : Int) - 1) = ((i - 1 : Nat) : Int) := by unfold wrap64; omega
    have e2 : (i : Int) - 1 = ((i - 1 : Nat) : Int) := by omega
    rw [hw2, if_neg h0, e2]
    refine evPos (by omega) (evPos (by omega) (evPos (by omega) ?_))
    rw [rd_at' (show i - 1 < l.length by omega)]
    refine evBindK (less_eq _ _) ?_
    by_cases hc : ltE l[i - 1] l[i] = true
    · refine evPos hc ?_
      simpa [hc] using ih
    · refine evNeg hc (evSome ?_)
      simp at hc
      simp [hc]
theorem refCheck_l0 (n : Int) (l : List S53) (hl : l.length ≤ 32768) : ∀ (d i : Nat), i + d = l.length →
    Ev (fun k => r4_Check.l0 k (i : Int) n l) (chkL n (if i = 0 then none else some (rd_T53 l ((i : Int) - 1))) (l.drop i)) := by
  intro d
  induction d with
  | zero =>
    intro i hi
    refine evStep (fun k => by rw [r4_Check.l0]) ?_
    refine evNeg (by omega) (evSome ?_)
    rw [List.drop_eq_nil_of_le (by omega)]
    simp only [chkL]
  | succ d ih =>
    intro i hi
    have hlt : i < l.length := by omega
    have IH := ih (i + 1) (by omega)
    rw [if_neg (show ¬ i + 1 = 0 by omega), show ((i + 1 : Nat) : Int) - 1 = (i : Int) by omega, rd_at' hlt] at IH
    have J := refCheck_j2 n l i hlt hl _ IH
    refine evStep (fun k => by rw [r4_Check.l0]) ?_
    rw [rd_at' hlt]
    refine evPos (by omega) (evPos (by omega) ?_)
    rw [List.drop_eq_getElem_cons hlt, chkL_cons]
    have W := within_alt n l[i]
    by_cases h1 : l[i].f0 < 0
    · refine evPos h1 (evEq (J true) ?_)
      rw [if_pos rfl, if_pos (W.2 (.inl h1))]
    · refine evNeg h1 ?_
      by_cases h2 : l[i].f0 ≥ n
      · refine evPos h2 (evEq (J true) ?_)
        rw [if_pos rfl, if_pos (W.2 (.inr (.inl h2)))]
      · refine evNeg h2 ?_
        by_cases h3 : l[i].f1 < 0
        · refine evPos h3 (evEq (J true) ?_)
          rw [if_pos rfl, if_pos (W.2 (.inr (.inr (.inl h3))))]
        · refine evNeg h3 (evEq (J _) ?_)
          by_cases h4 : l[i].f1 ≥ n
          · have e1 : decide (l[i].f1 ≥ n) = true := by simpa using h4
            have e2 : withinB n l[i] = false := W.2 (.inr (.inr (.inr h4)))
            rw [if_pos e1, if_pos e2]
          · have e1 : ¬ decide (l[i].f1 ≥ n) = true := by simpa using h4
            have e2 : ¬ withinB n l[i] = false := fun h => by have := W.1 h; omega
            rw [if_neg e1, if_neg e2]
            rfl
theorem refCheck_ev (n : Int) (l : List S53) : Ev (fun k => r4_Check.f k n l) (chk n l) := by
  unfold r4_Check.f chk
  refine evCase (fun _ => evSome rfl) (fun h0 => evCase (fun h1 => ?_) (fun h1 => ?_))
  · exact evStep (fun k => by rw [r4_Check.j0]) (evPos rfl (evSome rfl))
  · refine evStep (fun k => by rw [r4_Check.j0]) ?_
    by_cases h3 : (l.length : Int) > 32768
    · rw [if_pos h3]
      exact evPos (by simpa using h3) (evSome rfl)
    · rw [if_neg h3]
      refine evNeg (by simpa using h3) ?_
      have := refCheck_l0 n l (by omega) l.length 0 (by omega)
      simpa using this
def nodeB (n : Int) (l : List S53) (v : Int) : Bool := decide (0 ≤ v ∧ v < n ∧ chk n l = 0)
theorem take_succ' {α : Type} {l : List α} {i : Nat} (h : i < l.length) : l.take (i + 1) = l.take i ++ [l[i]] := List.take_succ_eq_append_getElem h
theorem succL_len (l : List S53) (v : Int) : (succL l v).length ≤ l.length := by
  unfold succL
  rw [List.length_map]
  exact List.length_filter_le _ _
def succN (n : Int) (l : List S53) (v : Int) : List Int := if 0 ≤ v ∧ v < n ∧ chk n l = 0 then succL l v else []
theorem chk_len {n : Int} {l : List S53} (h : chk n l = 0) : l.length ≤ 32768 := ((chk_zero n l).1 h).len
theorem refEqual_l0 (a b : List Int) (hab : a.length = b.length) (hl : a.length ≤ 10000000) : ∀ (d i : Nat), i + d = a.length → Ev (fun k => r4_Equal.l0 k a b (i : Int)) (decide (a.drop i = b.drop i)) := by
  intro d
  induction d with
  | zero =>
    intro i hi
    refine evStep (fun k => by rw [r4_Equal.l0]) (evNeg (by omega) (evSome ?_))
    rw [List.drop_eq_nil_of_le (by omega), List.drop_eq_nil_of_le (by omega)]
    simp
  | succ d ih =>
    intro i hi
    have ha : i < a.length := by omega
    have hb : i < b.length := by omega
    have hw : wrap64 ((i : Int) + 1) = ((i + 1 : Nat) : Int) := by unfold wrap64; omega
    refine evStep (fun k => by rw [r4_Equal.l0]) (evPos (by omega) (evPos (by omega) (evPos (by omega) ?_)))
    rw [show rd a (i : Int) = a[i] by simp [rd, ha], show rd b (i : Int) = b[i] by simp [rd, hb], hw]
    by_cases h : a[i] = b[i]
    · refine evPos h (evEq (ih (i + 1) (by omega)) ?_)
      rw [decide_eq_decide, drop_iff a b i ha hb]
      simp [h]
    · refine evNeg h (evSome ?_)
      exact (decide_eq_false (fun hc => h ((drop_iff a b i ha hb).1 hc).1)).symm
theorem refEqual_ev (a b : List Int) (hl : a.length ≤ 10000000) : Ev (fun k => r4_Equal.f k a b) (decide (a = b)) := by
  unfold r4_Equal.f
  by_cases h : a.length = b.length
  · refine evPos (by omega) ?_
    have := refEqual_l0 a b h hl a.length 0 (by omega)
    simpa using this
  · refine evNeg (by omega) (evSome ?_)
    exact (decide_eq_false (fun e => h (by rw [e]))).symm
theorem refEqual_same {a b : List Int} (e : a = b) (hl : a.length ≤ 10000000) : Ev (fun k => r4_Equal.f k a b) true := evEq (refEqual_ev a b hl) (decide_eq_true e)
theorem refSame_ev (n m : Int) (a b : List S53) (hl : a.length ≤ 1000000) : Ev (fun k => r4_Same.f k n a m b) (decide (n = m ∧ a = b)) :=
  Ev.of (fun k => r4_Same.mono _ _ _ _ k) (same_eq n m a b hl (a.length + 2) (Nat.le_refl _))
theorem progCheck_ev (n : Int) (l : List S53) : Ev (fun k => graph_Check.f k n l) (chk n l) := ⟨l.length + 4, fun k hk => Check_f n l k hk⟩
theorem progUsable_ev (n : Int) (l : List S53) (v : Int) : Ev (fun k => graph_usable.f k n l v) (nodeB n l v) := ⟨l.length + 4, fun k hk => usable_f n l v k hk⟩
def predL (l : List S53) (v : Int) : List Int := (l.filter fun x => decide (x.f1 = v)).map fun x => x.f0
theorem mem_predL {l : List S53} {v w : Int} : w ∈ predL l v ↔ (⟨w, v⟩ : S53) ∈ l := by
  unfold predL
  rw [List.mem_map]
  constructor
  · rintro ⟨x, hx, rfl⟩
    rw [List.mem_filter] at hx
    obtain ⟨h1, h2⟩ := hx
    have h2 : x.f1 = v := by simpa using h2
    subst h2
    exact h1
  · intro h
    exact ⟨_, List.mem_filter.2 ⟨h, by simp⟩, rfl⟩
theorem predL_take {l : List S53} {v : Int} {i : Nat} (h : i < l.length) : predL (l.take (i + 1)) v = predL (l.take i) v ++ (if l[i].f1 = v then [l[i].f0] else []) := by
  rw [take_succ' h]
  unfold predL
  rw [List.filter_append, List.map_append]
  congr 1
  by_cases e : l[i].f1 = v
  · rw [if_pos e, List.filter_cons_of_pos (by simpa using e)]; rfl
  · rw [if_neg e, List.filter_cons_of_neg (by simpa using e)]; rfl
theorem predL_len (l : List S53) (v : Int) : (predL l v).length ≤ l.length := by
  unfold predL
  rw [List.length_map]
  exact List.length_filter_le _ _
theorem pred_l0 (v : Int) (l : List S53) (hl : l.length ≤ 1000000) : ∀ (d i : Nat), i + d = l.length → Ev (fun k => graph_Pred.l0 k v (predL (l.take i) v) l (l.length : Int) (i : Int)) (predL l v) := by
  intro d
  induction d with
  | zero =>
    intro i hi
    refine evStep (fun k => by rw [graph_Pred.l0]) (evNeg (by omega) (evSome ?_))
    rw [List.take_of_length_le (by omega)]
  | succ d ih =>
    intro i hi
    have hlt : i < l.length := by omega
    have hw : wrap64 ((i : Int) + 1) = ((i + 1 : Nat) : Int) := by unfold wrap64; omega
    have IH := ih (i + 1) (by omega)
    rw [predL_take hlt] at IH
    refine evStep (fun k => by rw [graph_Pred.l0]) (evPos (by omega) (evPos (by omega) (evPos (by omega) ?_)))
    rw [rd_at' hlt, hw]
    by_cases e : l[i].f1 = v
    · rw [if_pos e] at IH
      refine evPos e (evPos ?_ IH)
      have := predL_len (l.take i) v
      rw [List.length_take] at this
      omega
    · rw [if_neg e, List.append_nil] at IH
      exact evNeg e IH
def predN (n : Int) (l : List S53) (v : Int) : List Int := if 0 ≤ v ∧ v < n ∧ chk n l = 0 then predL l v else []
theorem pred_ev (n : Int) (l : List S53) (v : Int) : Ev (fun k => graph_Pred.f k n l v) (predN n l v) := by
  unfold graph_Pred.f predN
  refine evBind (progUsable_ev n l v) ?_
  unfold nodeB
  by_cases h : 0 ≤ v ∧ v < n ∧ chk n l = 0
  · rw [if_pos h]
    refine evPos (decide_eq_true h) ?_
    have := pred_l0 v l (by have := chk_len h.2.2; omega) l.length 0 (by omega)
    simpa [predL] using this
  · rw [if_neg h]
    exact evNeg (by simpa using h) (evSome rfl)
def revL (l : List S53) : List S53 := sortE (l.map swapE)
theorem mem_revL {l : List S53} {x : S53} : x ∈ revL l ↔ swapE x ∈ l := by
  unfold revL
  rw [(sortE_perm _).mem_iff, List.mem_map]
  constructor
  · rintro ⟨y, hy, rfl⟩; exact hy
  · intro h; exact ⟨_, h, rfl⟩
theorem revL_asc {l : List S53} (h : Asc l) : Asc (revL l) := sortE_asc (swap_nodup (asc_nodup h))
theorem revL_len (l : List S53) : (revL l).length = l.length := by
  unfold revL
  rw [(sortE_perm _).length_eq, List.length_map]
theorem revL_revL {l : List S53} (h : Asc l) : revL (revL l) = l := asc_ext (revL_asc (revL_asc h)) h (fun x => by rw [mem_revL, mem_revL]; exact Iff.rfl)
theorem revL_valid {n : Int} {l : List S53} (h : Valid n l) : Valid n (revL l) :=
  ⟨h.n0, h.n1, by rw [revL_len]; exact h.len, fun x hx => by
    have := within_iff.1 (h.ins _ (mem_revL.1 hx))
    exact within_iff.2 ⟨this.2.2.1, this.2.2.2, this.1, this.2.1⟩, revL_asc h.asc⟩
def revN (n : Int) (l : List S53) : Int × List S53 := if chk n l = 0 then (n, revL l) else (0, [])
theorem rev_some (n : Int) (l : List S53) : graph_Reverse.f n l = some (revN n l) := by
  unfold graph_Reverse.f revN
  by_cases h : chk n l = 0
  · rw [if_pos h, if_pos h]; rfl
  · rw [if_neg h, if_neg h]
theorem succ_some (n : Int) (l : List S53) (v : Int) : graph_Succ.f n l v = some (succN n l v) := rfl
theorem succL_asc {l : List S53} (h : Asc l) (v : Int) : AscI (succL l v) := by
  unfold succL AscI
  rw [List.pairwise_map, List.pairwise_filter]
  refine List.Pairwise.imp ?_ h
  intro a b hab ha hb
  have ha : a.f0 = v := by simpa using ha
  have hb : b.f0 = v := by simpa using hb
  rw [ltE_iff] at hab
  omega
theorem predL_asc {l : List S53} (h : Asc l) (v : Int) : AscI (predL l v) := by
  unfold predL AscI
  rw [List.pairwise_map, List.pairwise_filter]
  refine List.Pairwise.imp ?_ h
  intro a b hab ha hb
  have ha : a.f1 = v := by simpa using ha
  have hb : b.f1 = v := by simpa using hb
  rw [ltE_iff] at hab
  omega
theorem succ_rev {l : List S53} (h : Asc l) (v : Int) : succL (revL l) v = predL l v := ascI_ext (succL_asc (revL_asc h) v) (predL_asc h v) (fun x => by rw [mem_succL, mem_revL, mem_predL]; exact Iff.rfl)
theorem mem_succ_revL {l : List S53} {v w : Int} : w ∈ succL (revL l) v ↔ v ∈ succL l w := by rw [mem_succL, mem_succL, mem_revL]; exact Iff.rfl
end Go.Proofs.YtfgbkklhjocmjaaDoor.Xq
namespace Go.Proofs.YtfgbkklhjocmjaaDoor.Xq
open Go.RowKit Go.Proofs.YtfgbkklhjocmjaaDoorW.PrintWords Go.Proofs.YtfgbkklhjocmjaaDoorW.PrintLast Go.Proofs.YtfgbkklhjocmjaaDoor.Gv
theorem rdN {a : List Int} {i : Nat} (h : i < a.length) : rd a (i : Int) = a[i] := by simp [rd, h]
theorem wrapN {i : Nat} (h : i ≤ 1000000000) : wrap64 ((i : Int) + 1) = ((i + 1 : Nat) : Int) := by unfold wrap64; omega
theorem refIn_l0 (a : List Int) (x : Int) (hl : a.length ≤ 100000000) : ∀ (d i : Nat), i + d = a.length → Ev (fun k => w4_in.l0 k a x (i : Int)) (decide (x ∈ a.drop i)) := by
  intro d
  induction d with
  | zero =>
    intro i hi
    refine evStep (fun k => by rw [w4_in.l0]) (evNeg (by omega) (evSome ?_))
    rw [List.drop_eq_nil_of_le (by omega)]
    simp
  | succ d ih =>
    intro i hi
    have hlt : i < a.length := by omega
    refine evStep (fun k => by rw [w4_in.l0]) (evPos (by omega) (evPos (by omega) ?_))
    rw [rdN hlt, wrapN (by omega), List.drop_eq_getElem_cons hlt]
    by_cases h : a[i] = x
    · refine evPos h (evSome ?_)
      simp [h]
    · refine evNeg h (evEq (ih (i + 1) (by omega)) ?_)
      rw [decide_eq_decide, List.mem_cons]
      exact ⟨.inr, fun hx => hx.resolve_left (fun e => h e.symm)⟩
theorem refIn_ev (a : List Int) (x : Int) (hl : a.length ≤ 100000000) : Ev (fun k => w4_in.f k a x) (decide (x ∈ a)) := by
  have := refIn_l0 a x hl a.length 0 (by omega)
  simpa [w4_in.f] using this
theorem those_len (n : Nat) (p : Nat → Bool) : (those n p).length ≤ n := by
  unfold those
  rw [List.length_map]
  exact Nat.le_trans (List.length_filter_le _ _) (by simp)
def IsReach (n : Nat) (l : List S53) (from_ out : List Int) : Prop := AscI out ∧ ∀ v : Int, v ∈ out ↔ 0 ≤ v ∧ v < n ∧ ∃ s, s ∈ from_ ∧ 0 ≤ s ∧ s < n ∧ Rch l s v
theorem isReach_len {n : Nat} {l : List S53} {from_ out : List Int} (h : IsReach n l from_ out) : out = those n fun x => decide ((x : Int) ∈ out) := ascI_ext h.1 (those_asc _ _) (fun v => by
  rw [mem_those]
  constructor
  · intro hv
    obtain ⟨a, b, _⟩ := (h.2 v).1 hv
    exact ⟨a, b, by simpa [show ((v.toNat : Nat) : Int) = v by omega] using hv⟩
  · rintro ⟨a, b, c⟩
    simpa [show ((v.toNat : Nat) : Int) = v by omega] using c)
theorem IsReach.len {n : Nat} {l : List S53} {from_ out : List Int} (h : IsReach n l from_ out) : out.length ≤ n := by
  rw [isReach_len h]
  exact those_len _ _
theorem reach_is {n : Nat} {l : List S53} (hv : Valid n l) (from_ : List Int) (hf : from_.length ≤ 60000) : ∃ out, IsReach n l from_ out ∧ graph_Reach.f n l from_ = some out := by
  obtain ⟨p, h1, h2⟩ := reach_some hv from_ hf
  refine ⟨_, ⟨those_asc n p, fun v => ?_⟩, h1⟩
  rw [mem_those]
  constructor
  · rintro ⟨a, b, c⟩; exact ⟨a, b, (h2 v a b).1 c⟩
  · rintro ⟨a, b, c⟩; exact ⟨a, b, (h2 v a b).2 c⟩
theorem reach_bad (n : Int) (l : List S53) (h : ¬ chk n l = 0) (from_ : List Int) : graph_Reach.f n l from_ = some [] := by
  unfold graph_Reach.f
  rw [if_neg h]
end Go.Proofs.YtfgbkklhjocmjaaDoor.Xq
namespace Go.Proofs.YtfgbkklhjocmjaaDoor.Xq
open Go.RowKit Go.Shelf Go.Proofs.YtfgbkklhjocmjaaDoorW.PrintWords Go.Proofs.YtfgbkklhjocmjaaDoorW.PrintLast Go.Proofs.YtfgbkklhjocmjaaDoor.Gv
def Behind (out : List Int) (v p : Int) : Prop := ∃ a b, out = a ++ v :: b ∧ p ∈ b
def Desc (l : List S53) : Prop := ∀ v w : Int, w ∈ succL l v → w < v
structure PO (n : Nat) (l : List S53) (root : Int) (gray : Int → Prop) (s : List Bool × List Int) : Prop where
  len : s.1.length = n
  nodes : ∀ v, v ∈ s.2 ∨ gray v → 0 ≤ v ∧ v < n
  seen : ∀ v : Int, 0 ≤ v → v < n → (s.1.getD v.toNat true = true ↔ v ∈ s.2 ∨ gray v)
  dis : ∀ v ∈ s.2, ¬ gray v
  nd : s.2.Nodup
  cl : ∀ v ∈ s.2, ∀ w ∈ succL l v, w ∈ s.2 ∨ gray w
  par : ∀ v ∈ s.2, v ≠ root → ∃ p, v ∈ succL l p ∧ (gray p ∨ Behind s.2 v p)
  rc : ∀ v, v ∈ s.2 ∨ gray v → Rch l root v
  ord : Desc l → ∀ a v b, s.2 = a ++ v :: b → ∀ w ∈ succL l v, w ∈ a
theorem getD_set_b {b : List Bool} {i j : Nat} (hi : i < b.length) : (b.set i true).getD j true = if i = j then true else b.getD j true := by
  by_cases h : i = j
  · subst h
    rw [if_pos rfl]
    simp [List.getD, hi]
  · rw [if_neg h]
    simp [List.getD, List.getElem?_set_ne h]
section
variable {n : Nat} {l : List S53} {root : Int}
theorem PO.enter {gray : Int → Prop} {s : List Bool × List Int} (h : PO n l root gray s) {v : Int} (v0 : 0 ≤ v) (v1 : v < n) (hs : s.1.getD v.toNat true = false) (hr : Rch l root v) :
    PO n l root (fun x => gray x ∨ x = v) (s.1.set v.toNat true, s.2) := by
  have hl : v.toNat < s.1.length := by rw [h.len]; omega
  have hns : ¬ (v ∈ s.2 ∨ gray v) := fun hc => by rw [(h.seen v v0 v1).2 hc] at hs; cases hs
  refine ⟨by show (s.1.set _ _).length = n; rw [List.length_set]; exact h.len, ?_, ?_, ?_, h.nd, ?_, ?_, ?_, h.ord⟩
  · rintro x (hx | hx | rfl)
    · exact h.nodes x (.inl hx)
    · exact h.nodes x (.inr hx)
    · exact ⟨v0, v1⟩
  · intro x x0 x1
    show (s.1.set v.toNat true).getD x.toNat true = true ↔ _
    rw [getD_set_b hl]
    by_cases e : v = x
    · subst e
      rw [if_pos rfl]
      simp
    · rw [if_neg (by omega), h.seen x x0 x1]
      constructor
      · rintro (h1 | h1)
        · exact .inl h1
        · exact .inr (.inl h1)
      · rintro (h1 | h1 | h1)
        · exact .inl h1
        · exact .inr h1
        · exact absurd h1.symm e
  · rintro x hx (h1 | rfl)
    · exact h.dis x hx h1
    · exact hns (.inl hx)
  · intro x hx w hw
    rcases h.cl x hx w hw with h1 | h1
    · exact .inl h1
    · exact .inr (.inl h1)
  · intro x hx hxr
    obtain ⟨p, h1, h2 | h2⟩ := h.par x hx hxr
    · exact ⟨p, h1, .inl (.inl h2)⟩
    · exact ⟨p, h1, .inr h2⟩
  · rintro x (hx | hx | rfl)
    · exact h.rc x (.inl hx)
    · exact h.rc x (.inr hx)
    · exact hr
theorem PO.start (n : Nat) (l : List S53) (root : Int) : PO n l root (fun _ => False) (List.replicate n false, []) := by
  refine ⟨by simp, by simp, ?_, by simp, by simp, by simp, by simp, by simp, by simp⟩
  intro v v0 v1
  have : v.toNat < n := by omega
  simp [List.getD, this]
end
end Go.Proofs.YtfgbkklhjocmjaaDoor.Xq
namespace Go.Proofs.YtfgbkklhjocmjaaDoor.Xq
open Go.RowKit Go.Proofs.YtfgbkklhjocmjaaDoorW.PrintWords Go.Proofs.YtfgbkklhjocmjaaDoorW.PrintLast Go.Proofs.YtfgbkklhjocmjaaDoor.Gv
theorem Way.rev {l : List S53} {k : Nat} {v w : Int} (h : Way l k v w) : Way (revL l) k w v := by
  induction h with
  | nil => exact .nil _
  | snoc _ hx ih => exact ih.cons (mem_succ_revL.2 hx)
theorem Way.rev' {l : List S53} {k : Nat} {v w : Int} (h : Way (revL l) k v w) : Way l k w v := by
  induction h with
  | nil => exact .nil _
  | snoc _ hx ih => exact ih.cons (mem_succ_revL.1 hx)
end Go.Proofs.YtfgbkklhjocmjaaDoor.Xq
namespace Go.Proofs.YtfgbkklhjocmjaaDoor.Xq
open Go.RowKit Go.Proofs.YtfgbkklhjocmjaaDoorW.PrintWords Go.Proofs.YtfgbkklhjocmjaaDoorW.PrintLast Go.Proofs.YtfgbkklhjocmjaaDoor.Gv
theorem succN_len (n : Int) (l : List S53) (v : Int) : (succN n l v).length ≤ l.length := by
  unfold succN
  split
  · exact succL_len l v
  · simp
theorem evAwake : Ev (fun _ => w4_awake.f.bind fun t => some t) true := evBindK awake_eq (evSome rfl)
end Go.Proofs.YtfgbkklhjocmjaaDoor.Xq
namespace Go.Proofs.YtfgbkklhjocmjaaDoor.Xq
open Go.RowKit Go.Proofs.YtfgbkklhjocmjaaDoorW.PrintWords Go.Proofs.YtfgbkklhjocmjaaDoorW.PrintLast Go.Proofs.YtfgbkklhjocmjaaDoor.Gv
theorem rch_rev {l : List S53} {v w : Int} : Rch (revL l) v w ↔ Rch l w v := ⟨fun ⟨k, h⟩ => ⟨k, h.rev'⟩, fun ⟨k, h⟩ => ⟨k, h.rev⟩⟩
theorem reach_mem {n : Nat} {l : List S53} {v w : Int} {out : List Int} (h : IsReach n l [v] out) : w ∈ out ↔ (0 ≤ v ∧ v < n) ∧ (0 ≤ w ∧ w < n) ∧ Rch l v w := by
  rw [h.2]
  constructor
  · rintro ⟨a, b, s, hs, c, d, e⟩
    obtain rfl : s = v := by simpa using hs
    exact ⟨⟨c, d⟩, ⟨a, b⟩, e⟩
  · rintro ⟨⟨c, d⟩, ⟨a, b⟩, e⟩
    exact ⟨a, b, v, by simp, c, d, e⟩
theorem GraphReverses_pure (n : Int) (l : List S53) (v w : Int) : ∃ k, w4_GraphReverses.f k n l v w = some true := by
  refine Ev.rounds ?_
  unfold w4_GraphReverses.f
  by_cases h : (l.length : Int) > 300
  · exact evPos h evAwake
  refine evNeg h (evBindK (rev_some n l) (evBind (refCheck_ev n l) ?_))
  by_cases hc : chk n l = 0
  · have hv := (chk_zero n l).1 hc
    obtain ⟨m, rfl⟩ := Int.eq_ofNat_of_zero_le hv.n0
    have hn := hv.n1
    have hr := revL_valid hv
    have hcr := (chk_zero _ _).2 hr
    refine evPos hc ?_
    rw [show revN (m : Int) l = ((m : Int), revL l) by unfold revN; rw [if_pos hc]]
    refine evBindK (rev_some _ _) ?_
    rw [show revN (m : Int) (revL l) = ((m : Int), l) by unfold revN; rw [if_pos hcr, revL_revL hv.asc]]
    refine evBind (evEq (refSame_ev _ _ _ _ (by show l.length ≤ 1000000; omega)) (decide_eq_true ⟨rfl, rfl⟩)) (evPos rfl (evBind (progCheck_ev _ _) ?_))
    obtain ⟨o1, a1, a2⟩ := reach_is hv [v] (by simp)
    obtain ⟨o2, b1, b2⟩ := reach_is hr [w] (by simp)
    have l1 := a1.len
    have l2 := b1.len
    have hs := succN_len m (revL l) v
    rw [revL_len] at hs
    have e : succN m (revL l) v = predN m l v := by
      unfold succN predN
      simp only [hc, hcr, and_true]
      rw [succ_rev hv.asc]
    refine evStep (fun k => by rw [w4_GraphReverses.j0]) ?_
    refine evNeg (by simp [hcr]) (evBindK (succ_some _ _ _) (evBind (pred_ev _ _ _) (evBind (refEqual_same e (by show (succN m (revL l) v).length ≤ 10000000; omega)) ?_)))
    refine evPos rfl (evBindK a2 (evBind (refIn_ev o1 w (by omega)) (evBindK b2 (evBind (refIn_ev o2 v (by omega)) ?_))))
    refine evPos ?_ evAwake
    have : w ∈ o1 ↔ v ∈ o2 := by
      rw [reach_mem a1, reach_mem b1, rch_rev]
      constructor
      · rintro ⟨p, q, r⟩; exact ⟨q, p, r⟩
      · rintro ⟨p, q, r⟩; exact ⟨q, p, r⟩
    simp [this]
  · refine evNeg hc ?_
    rw [show revN n l = (0, []) by unfold revN; rw [if_neg hc]]
    exact evPos rfl (evPos rfl (evBindK (reach_bad n l hc [v]) (evPos rfl evAwake)))
end Go.Proofs.YtfgbkklhjocmjaaDoor.Xq
namespace Go.Proofs.YtfgbkklhjocmjaaDoor.graphReverses
open Go.ChangeShapes Go.WideShapes Go.ChangeAt Go.RowKit
open Go.ChangeMaps (open_string shut_string)
theorem own : ownKnob Tryd.prog.godebug = none := by kernel_rfl
theorem laidOut : laidOutB Tryd.prog = true := by kernel_rfl
set_option maxRecDepth 100000 in
theorem lifted (os : Os) (started : os.Started) (H : Type) (enc : TypeId × Value → H) :
    ReturnsInHanded {} Tryd.checked os 12 .any (fun w args => (Rows.graphReversesSpec.pre enc Tryd.prog Tryd.f12 [] false w args ∧ laidMetH Tryd.prog Xq.laidT w) ∧ sizedMet enc Tryd.prog Tryd.f12 (OpenSpec.ofChange Rows.graphReversesSpec) false w args) (Rows.graphReversesSpec.post enc Tryd.prog Tryd.f12 false true false false) := by
  refine returnsInHanded_of_change_and (C := Tryd.checked) (X := fun w _ => laidMetH Tryd.prog Xq.laidT w) (fun _ _ _ hh h => h.of_heap hh) own started (by kernel_rfl) Tryd.func12
    (ChangeSpec.witness_shaped (enc := enc) (C := Tryd.checked) (os := os) (X := fun w _ => laidMetH Tryd.prog Xq.laidT w) false (World.doorLaid Tryd.prog 400 os) #[.agg #[.int .i64 0, .slice none 0 0], .int .i64 0, .int .i64 0] 8 rfl (World.shaped_of_RefB (by kernel_rfl) (by kernel_rfl)) (by kernel_rfl) (by kernel_rfl) (by kernel_rfl) (Xq.door_met os _)) ?_
  intro W base args ds gs before hval0 hW _ hsz0 hL _
  have hsz : (DataW.weightsEach Tryd.prog (Tryd.f12.params.toList ++ Rows.graphReversesSpec.plain.varTypes Tryd.prog) (ds ++ gs)).all (· ≤ reachBytes) = true := hsz0
  have hval : ∀ (j : Nat) t v, Tryd.f12.params[j]? = some t → args[j]? = some v → Value.okWide Tryd.prog W .any base t v := hval0
  have hG := Xq.tabW_of_met hL
  have hW' := hW
  obtain ⟨p, q, hA0, hV, rfl, hfz, hnd⟩ := hW
  have hA : DataW.TrodAll enc Tryd.prog W 0 (fun _ => true) true Tryd.f12.params.toList args.toList ds p := hA0
  rw [Tryd.params12] at hA hval hsz
  obtain ⟨v0, vs0, d0, ds0, p0, q0, hargs, rfl, rfl, h0, r0⟩ := trodAll_cons hA
  obtain ⟨v1, vs1, d1, ds1, p1, q1, rfl, rfl, rfl, h1, r1⟩ := trodAll_cons r0
  obtain ⟨v2, vs2, d2, ds2, p2, q2, rfl, rfl, rfl, h2, r2⟩ := trodAll_cons r1
  obtain ⟨rfl, rfl, rfl⟩ := trodAll_nil r2
  obtain rfl : args = #[v0, v1, v2] := by cases args; simp_all
  obtain ⟨rfl, rfl⟩ := trodVars_none hV
  have k0 := h0
  have lt0 : ∀ x ∈ p0, x.block < W.heap.size := by obtain ⟨m, hm⟩ := k0; exact DataW.trod_lt m _ _ _ hm
  obtain ⟨n0, A0, len0, cap0, l0, rfl, rfl, hcap0, hs0, hC0, hw0⟩ := Xq.open_graph hsz (j := 0) rfl rfl (hval 0 24 v0 rfl rfl) h0
  obtain ⟨a1, rfl, rfl, rfl, w1⟩ := open_int Tryd.underlying3 (hval 1 3 v1 rfl rfl) h1
  obtain ⟨a2, rfl, rfl, rfl, w2⟩ := open_int Tryd.underlying3 (hval 2 3 v2 rfl rfl) h2
  clear hA0 hval0 hsz0 hsz
  obtain ⟨k, hk⟩ := Xq.GraphReverses_pure n0 l0 a1 a2
  refine (Xq.w4_GraphReverses.calls k n0 A0 cap0 l0 a1 a2 true W hC0 hcap0 hG hk).mono fun e W' ⟨he, bel⟩ => ?_
  subst he
  exact ⟨_, rfl, _, _, _, [], _, [], hW', trodAll_mk1 (shut_bool Tryd.underlying4 _), (trodAll_cons_mk (Below.trod laidOut (by kernel_rfl) (of_decide_eq_true (by kernel_rfl)) k0 bel lt0) (trodAll_cons_mk (shut_int Tryd.underlying3 w1) (trodAll_cons_mk (shut_int Tryd.underlying3 w2) trodAll_mk0))), rfl, bel.frame _, fun h => by cases h⟩
theorem over : Rows.graphReversesRow.holds Tryd.pinned (OpenSpec.ofChange Rows.graphReversesSpec) :=
  OpenClaim.holds_of_wide 12 Tryd.f12 rfl rfl rfl rfl rfl rfl rfl ⟨rfl, rfl, rfl, rfl, rfl⟩ rfl rfl rfl rfl rfl (by kernel_rfl) Tryd.func12 (by kernel_rfl)
    (of_decide_eq_true (by kernel_rfl)) (by unfold Func.isWrapper; first | (rw [if_pos (by decide +kernel)]; kernel_rfl) | (rw [if_neg (by decide +kernel)]; exact ⟨rfl, rfl⟩))
    (fun os started H enc _ => lifted os started H enc)
theorem card : Rows.GraphReversesCardSaid :=
  Claim7.holds_tied_plain_at .later [] [.data] true (true, "6edfda05db3e9c87ed9ac05de1d998720f094d24bf1f98e6008bbf5273ecd797") false
    over (fun _ h => by cases h) (by kernel_rfl) (fun _ h => by cases h) graphReverses_row_tie rfl ⟨rfl, rfl⟩ (by kernel_rfl) rfl
    (fun f fn hf hfn => by
      obtain rfl : f = 12 := Option.some.inj ((show Tryd.prog.funcNamed "dataflow/dataflowlaw04.GraphReverses" = some 12 by kernel_rfl).symm.trans hf) |>.symm
      obtain rfl : fn = Tryd.f12 := (Option.some.inj (Tryd.func12.symm.trans hfn)).symm
      exact ⟨by kernel_rfl, fun j t ht => by
        rw [Tryd.params12] at ht
        have hm : t ∈ [24, 3, 3] := by simpa using Array.mem_of_getElem? ht
        have hall : ([24, 3, 3].all fun u => !Tryd.prog.wantsStandIn u) = true := by kernel_rfl
        exact (show Tryd.prog.wantsStandIn t = false by simpa using List.all_eq_true.1 hall t hm)⟩)
    (by kernel_rfl)
#print axioms card
end Go.Proofs.YtfgbkklhjocmjaaDoor.graphReverses
namespace Go.Proofs.YtfgbkklhjocmjaaDoor
theorem graphReverses_holds : Rows.GraphReversesCardSaid := graphReverses.card
end Go.Proofs.YtfgbkklhjocmjaaDoor
