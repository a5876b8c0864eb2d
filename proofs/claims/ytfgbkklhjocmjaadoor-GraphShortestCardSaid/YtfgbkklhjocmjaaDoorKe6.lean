/- Joined by a program out of this work's texts and the print's (what the law needs of them): GvP3, GvQ3, GvP4, GvP5, LawGraphShortest. -/
import Derived.Test.YtfgbkklhjocmjaaDoorKe5
import Derived.Test.YtfgbkklhjocmjaaDoorTie
import Derived.Test.YtfgbkklhjocmjaaDoorCards
import Derived.WalkKit
import Derived.ProofKit
import Derived.OpenShut
import Derived.ShutString
import Derived.ChangeOld
import Derived.Below
import Derived.SizedLaws
import Derived.SevenTiedAt
set_option linter.unusedVariables false
set_option linter.unusedSimpArgs false
namespace Go.Proofs.YtfgbkklhjocmjaaDoor.Xq
open Go.RowKit Go.Proofs.YtfgbkklhjocmjaaDoorW.PrintWords Go.Proofs.YtfgbkklhjocmjaaDoorW.PrintLast Go.Proofs.YtfgbkklhjocmjaaDoor.Gv
theorem rdN {a : List Int} {i : Nat} (h : i < a.length) : rd a (i : Int) = a[i] := by simp [rd, h]
theorem wrapN {i : Nat} (h : i ≤ 1000000000) : wrap64 ((i : Int) + 1) = ((i + 1 : Nat) : Int) := by unfold wrap64; omega
theorem refIn_l0 (a : List Int) (x : Int) (hl : a.length ≤ 100000000) : ∀ (d i : Nat), i + d = a.length → Ev (fun k => w4_in.l0 k a x (i : Int)) (decide (x ∈ a.drop i)) := by
  intro d
  induction d with
  | zero =>
    intro i hi
    refine evStep (fun k => by rw [w4_in.l0]) (evNeg (by omega) (evSome ?_))
    rw [List.drop_eq_nil_of_le (by omega)]
    simp
  | succ d ih =>
    intro i hi
    have hlt : i < a.length := by omega
    refine evStep (fun k => by rw [w4_in.l0]) (evPos (by omega) (evPos (by omega) ?_))
    rw [rdN hlt, wrapN (by omega), List.drop_eq_getElem_cons hlt]
    by_cases h : a[i] = x
    · refine evPos h (evSome ?_)
      simp [h]
    · refine evNeg h (evEq (ih (i + 1) (by omega)) ?_)
      rw [decide_eq_decide, List.mem_cons]
      exact ⟨.inr, fun hx => hx.resolve_left (fun e => h e.symm)⟩
theorem refIn_ev (a : List Int) (x : Int) (hl : a.length ≤ 100000000) : Ev (fun k => w4_in.f k a x) (decide (x ∈ a)) := by
  have := refIn_l0 a x hl a.length 0 (by omega)
  simpa [w4_in.f] using this
def listsOf (n : Nat) (l : List S53) : List (List Int) := (List.range n).map fun v : Nat => succL l v
theorem listsOf_length (n : Nat) (l : List S53) : (listsOf n l).length = n := by simp [listsOf]
theorem rd_lists {n : Nat} {l : List S53} {v : Int} (v0 : 0 ≤ v) (v1 : v < n) : rd_L5 (listsOf n l) v = succL l v := by
  have h : v.toNat < n := by omega
  unfold rd_L5 listsOf
  rw [List.getD_eq_getElem?_getD, List.getElem?_map, List.getElem?_range h]
  simp [show ((v.toNat : Nat) : Int) = v by omega]
theorem lists_set {n : Nat} {l : List S53} {i : Nat} (hi : i < l.length) (h0 : 0 ≤ l[i].f0) (h1 : l[i].f0 < n) : (listsOf n (l.take i)).set l[i].f0.toNat (succL (l.take i) l[i].f0 ++ [l[i].f1]) = listsOf n (l.take (i + 1)) := by
  apply List.ext_getElem
  · simp [listsOf]
  · intro j hj hj2
    have hjn : j < n := by simpa [listsOf] using hj2
    rw [List.getElem_set]
    by_cases e : l[i].f0.toNat = j
    · rw [if_pos e]
      simp only [listsOf, List.getElem_map, List.getElem_range]
      have e2 : (j : Int) = l[i].f0 := by omega
      rw [e2, succL_take hi, if_pos rfl]
    · rw [if_neg e]
      simp only [listsOf, List.getElem_map, List.getElem_range]
      rw [succL_take hi, if_neg (by omega), List.append_nil]
theorem refLists_l0 (n : Nat) (m : Int) (l : List S53) (hl : l.length ≤ 1000000) (hE : ∀ x ∈ l, 0 ≤ x.f0 ∧ x.f0 < n) : ∀ (d i : Nat), i + d = l.length → Ev (fun k => r4_Lists.l0 k (listsOf n (l.take i)) (i : Int) m l) (listsOf n l) := by
  intro d
  induction d with
  | zero =>
    intro i hi
    refine evStep (fun k => by rw [r4_Lists.l0]) (evNeg (by omega) (evSome ?_))
    rw [List.take_of_length_le (by omega)]
  | succ d ih =>
    intro i hi
    have hlt : i < l.length := by omega
    obtain ⟨h0, h1⟩ := hE _ (List.getElem_mem hlt)
    have hlen := succL_len (l.take i) l[i].f0
    rw [List.length_take] at hlen
    refine evStep (fun k => by rw [r4_Lists.l0]) (evPos (by omega) (evPos (by omega) ?_))
    rw [rd_at' hlt, wrapN (by omega), rd_lists h0 h1, listsOf_length, lists_set hlt h0 h1]
    exact evPos h0 (evPos h1 (evPos (by omega) (ih (i + 1) (by omega))))
theorem refLists_ev (n : Nat) (hn : n ≤ 1000000) (l : List S53) (hl : l.length ≤ 1000000) (hE : ∀ x ∈ l, 0 ≤ x.f0 ∧ x.f0 < n) : Ev (fun k => r4_Lists.f k n l) (listsOf n l) := by
  unfold r4_Lists.f
  refine evPos (by omega) (evPos (by omega) ?_)
  have := refLists_l0 n n l hl hE l.length 0 (by omega)
  have e : listsOf n (l.take 0) = List.replicate (n : Int).toNat [] := by
    apply List.ext_getElem
    · simp [listsOf]
    · intro j _ _
      simp [listsOf, succL]
  rw [e] at this
  exact this
theorem refDist_l0 (n : Nat) (hn : n ≤ 1000000) (l : List S53) (from_ : List Int) (R : List Int) (rest : Ev (fun k => r4_Distances.l1 k from_ (List.replicate n (-1)) [] 0 n l) R) : ∀ (d i : Nat) (x : List Int), i + d = n → x.length = n → (∀ j, j < i → x[j]? = some (-1)) → Ev (fun k => r4_Distances.l0 k from_ x (i : Int) n l) R := by
  intro d
  induction d with
  | zero =>
    intro i x hi hx hj
    have e : x = List.replicate n (-1) := by
      apply List.ext_getElem?
      intro j
      by_cases h : j < n
      · rw [hj j (by omega), List.getElem?_replicate, if_pos h]
      · rw [List.getElem?_eq_none (by omega), List.getElem?_eq_none (by simp; omega)]
    refine evStep (fun k => by rw [r4_Distances.l0]) (evNeg (by omega) ?_)
    rw [e]
    exact rest
  | succ d ih =>
    intro i x hi hx hj
    refine evStep (fun k => by rw [r4_Distances.l0]) (evPos (by omega) (evPos (by omega) (evPos (by omega) ?_)))
    rw [wrapN (by omega), Int.toNat_natCast]
    refine ih (i + 1) _ (by omega) (by rw [List.length_set]; exact hx) (fun j hji => ?_)
    by_cases e : i = j
    · subst e
      rw [List.getElem?_set_self (by omega)]
    · rw [List.getElem?_set_ne e]
      exact hj j (by omega)
theorem istep_len (n : Nat) (s : List Int × List Int) (x : Int) : (istep n s x).1.length = s.1.length ∧ (istep n s x).2.length ≤ s.2.length + 1 := by
  unfold istep
  split
  · exact ⟨by simp, by simp⟩
  · exact ⟨rfl, by omega⟩
theorem refDist_l1 (n : Nat) (hn : n ≤ 1000000) (l : List S53) (from_ : List Int) (hf : from_.length ≤ 1000000) (R : List Int) : ∀ (d i : Nat) (s : List Int × List Int), i + d = from_.length → s.1.length = n → s.2.length ≤ i →
    Ev (fun k => (r4_Lists.f k n l).bind fun t => r4_Distances.l2 k ((from_.drop i).foldl (istep n) s).1 ((from_.drop i).foldl (istep n) s).2 t 0) R →
    Ev (fun k => r4_Distances.l1 k from_ s.1 s.2 (i : Int) n l) R := by
  intro d
  induction d with
  | zero =>
    intro i s hi h1 h2 rest
    refine evStep (fun k => by rw [r4_Distances.l1]) (evNeg (by omega) ?_)
    rw [List.drop_eq_nil_of_le (by omega)] at rest
    exact rest
  | succ d ih =>
    intro i s hi h1 h2 rest
    have hlt : i < from_.length := by omega
    rw [List.drop_eq_getElem_cons hlt, List.foldl_cons] at rest
    obtain ⟨g1, g2⟩ := istep_len n s from_[i]
    have IH := ih (i + 1) (istep n s from_[i]) (by omega) (by rw [g1]; exact h1) (by omega) rest
    refine evStep (fun k => by rw [r4_Distances.l1]) (evPos (by omega) (evPos (by omega) ?_))
    rw [rdN hlt, wrapN (by omega)]
    by_cases a : from_[i] ≥ 0
    · refine evPos a ?_
      by_cases b : from_[i] < n
      · refine evPos b (evPos a (evPos (by omega) ?_))
        by_cases c : rd s.1 from_[i] < 0
        · refine evPos c (evPos (by omega) ?_)
          have e : istep n s from_[i] = (s.1.set from_[i].toNat 0, s.2 ++ [from_[i]]) := by unfold istep; rw [if_pos ⟨a, b, c⟩]
          rw [e] at IH
          exact IH
        · refine evNeg c ?_
          have e : istep n s from_[i] = s := by unfold istep; rw [if_neg (fun h => c h.2.2)]
          rw [e] at IH
          exact IH
      · refine evNeg b ?_
        have e : istep n s from_[i] = s := by unfold istep; rw [if_neg (fun h => b h.2.1)]
        rw [e] at IH
        exact IH
    · refine evNeg a ?_
      have e : istep n s from_[i] = s := by unfold istep; rw [if_neg (fun h => a h.1)]
      rw [e] at IH
      exact IH
theorem refDist_l3 (n : Nat) (l : List S53) (hE : Inn n l) (hl : l.length ≤ 1000000) (i : Nat) (pre : List Int) (hp : pre.length ≤ 1000000000) (v : Int) (v0 : 0 ≤ v) (v1 : v < n) (R : List Int) : ∀ (d j : Nat) (s : List Int × List Int), j + d = (succL l v).length → s.1.length = n → s.2.length ≤ 1000000 + j →
    Ev (fun k => r4_Distances.l2 k (((succL l v).drop j).foldl (bstep v) s).1 (pre ++ (((succL l v).drop j).foldl (bstep v) s).2) (listsOf n l) (wrap64 ((i : Int) + 1))) R →
    Ev (fun k => r4_Distances.l3 k s.1 (pre ++ s.2) (listsOf n l) (i : Int) v (j : Int)) R := by
  intro d
  have hsl := succL_len l v
  induction d with
  | zero =>
    intro j s hj h1 h2 rest
    refine evStep (fun k => by rw [r4_Distances.l3]) ?_
    rw [rd_lists v0 v1, listsOf_length]
    refine evPos v0 (evPos v1 (evNeg (by omega) ?_))
    rw [List.drop_eq_nil_of_le (by omega)] at rest
    exact rest
  | succ d ih =>
    intro j s hj h1 h2 rest
    have hlt : j < (succL l v).length := by omega
    have hm : (succL l v)[j] ∈ succL l v := List.getElem_mem hlt
    obtain ⟨_, _, w0, w1⟩ := hE _ _ hm
    rw [List.drop_eq_getElem_cons hlt, List.foldl_cons] at rest
    have g1 := bstep_len v s (succL l v)[j]
    have g2 : (bstep v s (succL l v)[j]).2.length ≤ s.2.length + 1 := by
      unfold bstep
      split
      · simp
      · omega
    have IH := ih (j + 1) (bstep v s (succL l v)[j]) (by omega) (by rw [g1]; exact h1) (by omega) rest
    refine evStep (fun k => by rw [r4_Distances.l3]) ?_
    rw [rd_lists v0 v1, listsOf_length, wrapN (show j ≤ 1000000000 by omega), rdN hlt]
    refine evPos v0 (evPos v1 (evPos (by omega) (evPos (by omega) (evPos w0 (evPos (by omega) ?_)))))
    by_cases c : rd s.1 (succL l v)[j] < 0
    · refine evPos c (evPos (by omega) (evPos (by rw [List.length_append]; omega) ?_))
      have e : bstep v s (succL l v)[j] = (s.1.set (succL l v)[j].toNat (wrap64 (rd s.1 v + 1)), s.2 ++ [(succL l v)[j]]) := by unfold bstep; rw [if_pos c]
      rw [e] at IH
      rw [List.append_assoc]
      exact IH
    · refine evNeg c ?_
      have e : bstep v s (succL l v)[j] = s := by unfold bstep; rw [if_neg c]
      rw [e] at IH
      exact IH
theorem refDist_l2 (n : Nat) (l : List S53) (hE : Inn n l) (hl : l.length ≤ 1000000) : ∀ (K : Nat) (pre far work ws : List Int), pre.length + K ≤ 100000000 → far.length = n → (∀ v ∈ work, 0 ≤ v ∧ v < n) → distF l K (far, work) = some ws → Ev (fun k => r4_Distances.l2 k far (pre ++ work) (listsOf n l) (pre.length : Int)) ws := by
  intro K
  induction K with
  | zero => intro pre far work ws _ _ _ h; simp [distF] at h
  | succ K ih =>
    intro pre far work ws hp hf hw h
    match work, hw, h with
    | [], hw, h =>
      simp only [distF, Option.some.injEq] at h
      refine evStep (fun k => by rw [r4_Distances.l2]) (evNeg (by simp) (evSome h))
    | v :: r, hw, h =>
      unfold distF at h
      simp only at h
      by_cases hr : r.length ≤ 100000
      · rw [if_pos hr] at h
        obtain ⟨v0, v1⟩ := hw v List.mem_cons_self
        have e : rd (pre ++ v :: r) (pre.length : Int) = v := by
          rw [rdN (by simp)]
          simp
        refine evStep (fun k => by rw [r4_Distances.l2]) (evPos (by simp; omega) (evPos (by omega) ?_))
        rw [e, show pre ++ v :: r = (pre ++ [v]) ++ r by simp]
        refine refDist_l3 n l hE hl pre.length (pre ++ [v]) (by simp; omega) v v0 v1 ws (succL l v).length 0 (far, r) (by omega) hf (by show r.length ≤ _; omega) ?_
        rw [List.drop_zero, wrapN (by omega)]
        have IH := ih (pre ++ [v]) ((succL l v).foldl (bstep v) (far, r)).1 ((succL l v).foldl (bstep v) (far, r)).2 ws (by simp; omega) (by rw [bsteps_len]; exact hf) (fun x hx => by
          rcases bsteps_mem v _ _ x hx with h1 | h1
          · exact hw x (List.mem_cons_of_mem _ h1)
          · obtain ⟨_, _, a, b⟩ := hE _ _ h1
            exact ⟨a, b⟩) (by rw [Prod.eta]; exact h)
        rw [List.length_append, List.length_singleton] at IH
        exact IH
      · rw [if_neg hr] at h
        cases h
theorem isteps_mem (n : Nat) : ∀ (xs : List Int) (s : List Int × List Int), (∀ v ∈ s.2, 0 ≤ v ∧ v < n) → ∀ v ∈ (xs.foldl (istep n) s).2, 0 ≤ v ∧ v < n
  | [], s, h => h
  | x :: xs, s, h => by
    rw [List.foldl_cons]
    refine isteps_mem n xs _ ?_
    unfold istep
    split
    · next hc =>
      intro v hv
      rcases List.mem_append.1 hv with hv | hv
      · exact h v hv
      · rw [List.mem_singleton.1 hv]; exact ⟨hc.1, hc.2.1⟩
    · exact h
theorem isteps_len (n : Nat) : ∀ (xs : List Int) (s : List Int × List Int), (xs.foldl (istep n) s).1.length = s.1.length
  | [], s => rfl
  | x :: xs, s => by rw [List.foldl_cons, isteps_len n xs, (istep_len n s x).1]
theorem refDist_ev (n : Nat) (hn : n ≤ 100000) (l : List S53) (hE : Inn n l) (hl : l.length ≤ 1000000) (from_ : List Int) (hf : from_.length ≤ 1000000) : ∃ ws, distF l 10000000 (from_.foldl (istep n) (List.replicate n (-1), [])) = some ws ∧ BF n l (fun v => v ∈ from_) n ws [] ∧ Ev (fun k => r4_Distances.f k n l from_) ws := by
  obtain ⟨ws, h1, h2⟩ := dist_all hn hE from_ 10000000 (by omega)
  refine ⟨ws, h1, h2, ?_⟩
  unfold r4_Distances.f
  refine evPos (by omega) (evPos (by omega) ?_)
  have L := refLists_ev n (by omega) l hl (fun x hx => by
    obtain ⟨a, b, _, _⟩ := hE x.f0 x.f1 (mem_succL.2 hx)
    exact ⟨a, b⟩)
  refine refDist_l0 n (by omega) l from_ ws ?_ n 0 _ (by omega) (by simp) (fun j hj => by omega)
  refine refDist_l1 n (by omega) l from_ hf ws from_.length 0 (List.replicate n (-1), []) (by omega) (by simp) (by simp) ?_
  refine evBind L ?_
  rw [List.drop_zero]
  exact refDist_l2 n l hE hl 10000000 [] _ _ ws (by simp) (by rw [isteps_len]; simp) (isteps_mem n from_ _ (by simp)) h1
theorem Valid.inn {n : Nat} {l : List S53} (h : Valid n l) : Inn n l := fun v w hw => by
  obtain ⟨a, b, c, d⟩ := h.succ_lt hw
  exact ⟨c, d, a, b⟩
theorem those_len (n : Nat) (p : Nat → Bool) : (those n p).length ≤ n := by
  unfold those
  rw [List.length_map]
  exact Nat.le_trans (List.length_filter_le _ _) (by simp)
def IsReach (n : Nat) (l : List S53) (from_ out : List Int) : Prop := AscI out ∧ ∀ v : Int, v ∈ out ↔ 0 ≤ v ∧ v < n ∧ ∃ s, s ∈ from_ ∧ 0 ≤ s ∧ s < n ∧ Rch l s v
theorem isReach_len {n : Nat} {l : List S53} {from_ out : List Int} (h : IsReach n l from_ out) : out = those n fun x => decide ((x : Int) ∈ out) := ascI_ext h.1 (those_asc _ _) (fun v => by
  rw [mem_those]
  constructor
  · intro hv
    obtain ⟨a, b, _⟩ := (h.2 v).1 hv
    exact ⟨a, b, by simpa [show ((v.toNat : Nat) : Int) = v by omega] using hv⟩
  · rintro ⟨a, b, c⟩
    simpa [show ((v.toNat : Nat) : Int) = v by omega] using c)
theorem IsReach.len {n : Nat} {l : List S53} {from_ out : List Int} (h : IsReach n l from_ out) : out.length ≤ n := by
  rw [isReach_len h]
  exact those_len _ _
theorem reach_is {n : Nat} {l : List S53} (hv : Valid n l) (from_ : List Int) (hf : from_.length ≤ 60000) : ∃ out, IsReach n l from_ out ∧ graph_Reach.f n l from_ = some out := by
  obtain ⟨p, h1, h2⟩ := reach_some hv from_ hf
  refine ⟨_, ⟨those_asc n p, fun v => ?_⟩, h1⟩
  rw [mem_those]
  constructor
  · rintro ⟨a, b, c⟩; exact ⟨a, b, (h2 v a b).1 c⟩
  · rintro ⟨a, b, c⟩; exact ⟨a, b, (h2 v a b).2 c⟩
end Go.Proofs.YtfgbkklhjocmjaaDoor.Xq
namespace Go.Proofs.YtfgbkklhjocmjaaDoor.Xq
open Go.RowKit Go.Shelf Go.Proofs.YtfgbkklhjocmjaaDoorW.PrintWords Go.Proofs.YtfgbkklhjocmjaaDoorW.PrintLast Go.Proofs.YtfgbkklhjocmjaaDoor.Gv
def Behind (out : List Int) (v p : Int) : Prop := ∃ a b, out = a ++ v :: b ∧ p ∈ b
def Desc (l : List S53) : Prop := ∀ v w : Int, w ∈ succL l v → w < v
structure PO (n : Nat) (l : List S53) (root : Int) (gray : Int → Prop) (s : List Bool × List Int) : Prop where
  len : s.1.length = n
  nodes : ∀ v, v ∈ s.2 ∨ gray v → 0 ≤ v ∧ v < n
  seen : ∀ v : Int, 0 ≤ v → v < n → (s.1.getD v.toNat true = true ↔ v ∈ s.2 ∨ gray v)
  dis : ∀ v ∈ s.2, ¬ gray v
  nd : s.2.Nodup
  cl : ∀ v ∈ s.2, ∀ w ∈ succL l v, w ∈ s.2 ∨ gray w
  par : ∀ v ∈ s.2, v ≠ root → ∃ p, v ∈ succL l p ∧ (gray p ∨ Behind s.2 v p)
  rc : ∀ v, v ∈ s.2 ∨ gray v → Rch l root v
  ord : Desc l → ∀ a v b, s.2 = a ++ v :: b → ∀ w ∈ succL l v, w ∈ a
theorem Behind.last {out : List Int} {v : Int} (h : v ∈ out) (x : Int) : Behind (out ++ [x]) v x := by
  obtain ⟨a, b, rfl⟩ := List.append_of_mem h
  exact ⟨a, b ++ [x], by simp, by simp⟩
theorem getD_set_b {b : List Bool} {i j : Nat} (hi : i < b.length) : (b.set i true).getD j true = if i = j then true else b.getD j true := by
  by_cases h : i = j
  · subst h
    rw [if_pos rfl]
    simp [List.getD, hi]
  · rw [if_neg h]
    simp [List.getD, List.getElem?_set_ne h]
section
variable {n : Nat} {l : List S53} {root : Int}
theorem PO.enter {gray : Int → Prop} {s : List Bool × List Int} (h : PO n l root gray s) {v : Int} (v0 : 0 ≤ v) (v1 : v < n) (hs : s.1.getD v.toNat true = false) (hr : Rch l root v) :
    PO n l root (fun x => gray x ∨ x = v) (s.1.set v.toNat true, s.2) := by
  have hl : v.toNat < s.1.length := by rw [h.len]; omega
  have hns : ¬ (v ∈ s.2 ∨ gray v) := fun hc => by rw [(h.seen v v0 v1).2 hc] at hs; cases hs
  refine ⟨by show (s.1.set _ _).length = n; rw [List.length_set]; exact h.len, ?_, ?_, ?_, h.nd, ?_, ?_, ?_, h.ord⟩
  · rintro x (hx | hx | rfl)
    · exact h.nodes x (.inl hx)
    · exact h.nodes x (.inr hx)
    · exact ⟨v0, v1⟩
  · intro x x0 x1
    show (s.1.set v.toNat true).getD x.toNat true = true ↔ _
    rw [getD_set_b hl]
    by_cases e : v = x
    · subst e
      rw [if_pos rfl]
      simp
    · rw [if_neg (by omega), h.seen x x0 x1]
      constructor
      · rintro (h1 | h1)
        · exact .inl h1
        · exact .inr (.inl h1)
      · rintro (h1 | h1 | h1)
        · exact .inl h1
        · exact .inr h1
        · exact absurd h1.symm e
  · rintro x hx (h1 | rfl)
    · exact h.dis x hx h1
    · exact hns (.inl hx)
  · intro x hx w hw
    rcases h.cl x hx w hw with h1 | h1
    · exact .inl h1
    · exact .inr (.inl h1)
  · intro x hx hxr
    obtain ⟨p, h1, h2 | h2⟩ := h.par x hx hxr
    · exact ⟨p, h1, .inl (.inl h2)⟩
    · exact ⟨p, h1, .inr h2⟩
  · rintro x (hx | hx | rfl)
    · exact h.rc x (.inl hx)
    · exact h.rc x (.inr hx)
    · exact hr
theorem PO.start (n : Nat) (l : List S53) (root : Int) : PO n l root (fun _ => False) (List.replicate n false, []) := by
  refine ⟨by simp, by simp, ?_, by simp, by simp, by simp, by simp, by simp, by simp⟩
  intro v v0 v1
  have : v.toNat < n := by omega
  simp [List.getD, this]
end
end Go.Proofs.YtfgbkklhjocmjaaDoor.Xq
namespace Go.Proofs.YtfgbkklhjocmjaaDoor.Xq
open Go.RowKit Go.Proofs.YtfgbkklhjocmjaaDoorW.PrintWords Go.Proofs.YtfgbkklhjocmjaaDoorW.PrintLast Go.Proofs.YtfgbkklhjocmjaaDoor.Gv
theorem Way.rev {l : List S53} {k : Nat} {v w : Int} (h : Way l k v w) : Way (revL l) k w v := by
  induction h with
  | nil => exact .nil _
  | snoc _ hx ih => exact ih.cons (mem_succ_revL.2 hx)
theorem Way.rev' {l : List S53} {k : Nat} {v w : Int} (h : Way (revL l) k v w) : Way l k w v := by
  induction h with
  | nil => exact .nil _
  | snoc _ hx ih => exact ih.cons (mem_succ_revL.1 hx)
structure Far (n : Nat) (l : List S53) (t : Int) (far : List Int) : Prop where
  len : far.length = n
  zero : ∀ v : Int, 0 ≤ v → v < n → (rd far v = 0 ↔ v = t)
  nxt : ∀ v : Int, 0 ≤ v → v < n → 0 < rd far v → ∃ w, w ∈ succL l v ∧ rd far w = rd far v - 1
  hi : ∀ v : Int, 0 ≤ v → v < n → rd far v ≤ n
  way : ∀ (k : Nat) (v : Int), 0 ≤ v → v < n → Way l k v t → 0 ≤ rd far v ∧ rd far v ≤ k
  back : ∀ v : Int, 0 ≤ v → v < n → 0 ≤ rd far v → Rch l v t
theorem far_of {n : Nat} {l : List S53} (hv : Valid n l) {t : Int} (t0 : 0 ≤ t) (t1 : t < n) {ws : List Int} (h : BF n (revL l) (fun v => v ∈ [t]) n ws []) : Far n l t ws := by
  have hE := (revL_valid hv).inn
  refine ⟨h.len, fun v v0 v1 => ⟨fun hz => ?_, fun e => ?_⟩, fun v v0 v1 hp => ?_, fun v v0 v1 => ?_, fun k v v0 v1 hw => ?_, fun v v0 v1 hz => ?_⟩
  · rcases h.so v v0 v1 (by omega) with ⟨_, h1⟩ | ⟨u, _, _, _, h1, h2⟩
    · simpa using h1
    · omega
  · exact h.ss v (by simp [e]) v0 v1
  · rcases h.so v v0 v1 (by omega) with ⟨h1, _⟩ | ⟨u, _, _, h1, h2, h3⟩
    · omega
    · exact ⟨u, mem_succ_revL.1 h1, by omega⟩
  · have := h.bd v v0 v1
    omega
  · exact h.way hE (s := t) (by simp) t0 t1 hw.rev
  · obtain ⟨s, h1, h2, h3, k, h4⟩ := (h.reach hE v0 v1).1 hz
    obtain rfl : s = t := by simpa using h1
    exact ⟨k, h4.rev'⟩
section
variable {n : Nat} {l : List S53} {t : Int} {far : List Int}
theorem refPath_j3f (path : List Int) (hp : path.length ≤ 1000000) (v y : Int) (j : Int) (R : List Int × Bool) (rest : Ev (fun k => r4_Path.l0 k t far (listsOf n l) (path ++ [y]) y) R) : Ev (fun k => r4_Path.j3 k t far (listsOf n l) path v y j false) R :=
  evStep (fun k => by rw [r4_Path.j3]) (evNeg (by simp) (evPos (by omega) rest))
theorem refPath_l1 (hF : Far n l t far) (hE : Inn n l) (hn : n ≤ 100000) (hl : l.length ≤ 1000000) (path : List Int) (hp : path.length ≤ 1000000) (v : Int) (v0 : 0 ≤ v) (v1 : v < n) (hv : 0 < rd far v) (y : Int) (R : List Int × Bool)
    (rest : Ev (fun k => r4_Path.l0 k t far (listsOf n l) (path ++ [y]) y) R) : ∀ (d j : Nat), j + d = (succL l v).length → ((succL l v).drop j).find? (fun y => rd far y == wrap64 (rd far v - 1)) = some y → Ev (fun k => r4_Path.l1 k t far (listsOf n l) path v (-1) (j : Int)) R := by
  intro d
  have hsl := succL_len l v
  have hhi := hF.hi v v0 v1
  have hw : wrap64 (rd far v - 1) = rd far v - 1 := by unfold wrap64; omega
  induction d with
  | zero =>
    intro j hj hf
    rw [List.drop_eq_nil_of_le (by omega)] at hf
    simp at hf
  | succ d ih =>
    intro j hj hf
    have hlt : j < (succL l v).length := by omega
    have hm : (succL l v)[j] ∈ succL l v := List.getElem_mem hlt
    obtain ⟨_, _, w0, w1⟩ := hE _ _ hm
    rw [List.drop_eq_getElem_cons hlt, List.find?_cons] at hf
    refine evStep (fun k => by rw [r4_Path.l1]) ?_
    rw [rd_lists v0 v1, listsOf_length]
    refine evPos v0 (evPos v1 (evPos (by omega) ?_))
    refine evStep (fun k => by rw [r4_Path.j3]) ?_
    rw [rd_lists v0 v1, listsOf_length, rdN hlt, wrapN (show j ≤ 1000000000 by omega)]
    have hfl := hF.len
    refine evPos (by simp) (evPos v0 (evPos v1 (evPos (by omega) (evPos (by omega) (evPos w0 (evPos (by omega) (evPos (by omega) ?_)))))))
    by_cases e : rd far (succL l v)[j] = wrap64 (rd far v - 1)
    · rw [show (rd far (succL l v)[j] == wrap64 (rd far v - 1)) = true by simpa using e] at hf
      obtain rfl : (succL l v)[j] = y := by simpa using hf
      refine evPos e (evPos (by omega) ?_)
      refine evStep (fun k => by rw [r4_Path.l1]) ?_
      rw [rd_lists v0 v1, listsOf_length]
      refine evPos v0 (evPos v1 ?_)
      have J := fun jj : Int => refPath_j3f (n := n) (l := l) (far := far) path hp v (succL l v)[j] jj R rest
      by_cases hc : ((j + 1 : Nat) : Int) < ((succL l v).length : Int)
      · refine evPos hc ?_
        rw [show (decide ((succL l v)[j] < 0)) = false by simpa using w0]
        exact J _
      · exact evNeg hc (J _)
    · rw [show (rd far (succL l v)[j] == wrap64 (rd far v - 1)) = false by simpa using e] at hf
      exact evNeg e (ih (j + 1) (by omega) hf)
def Links (l : List S53) : List Int → Prop
  | [] => True
  | [_] => True
  | a :: b :: r => b ∈ succL l a ∧ Links l (b :: r)
theorem path_run (hF : Far n l t far) (hE : Inn n l) (hn : n ≤ 100000) (hl : l.length ≤ 1000000) : ∀ (d : Nat) (v : Int) (path : List Int), rd far v = d → 0 ≤ v → v < n → path.length + d ≤ 1000000 →
    ∃ q, q.length = d ∧ (∀ K, d < K → pathF l far t K (v, path) = some (path ++ q)) ∧ Ev (fun k => r4_Path.l0 k t far (listsOf n l) path v) (path ++ q, true) ∧ Links l (v :: q) ∧ (v :: q).getLast? = some t := by
  intro d
  induction d with
  | zero =>
    intro v path hd v0 v1 hp
    have e : v = t := (hF.zero v v0 v1).1 (by omega)
    refine ⟨[], rfl, fun K hK => ?_, ?_, trivial, by simp [e]⟩
    · obtain ⟨K, rfl⟩ : ∃ K', K = K' + 1 := ⟨K - 1, by omega⟩
      rw [pathF, if_pos e, List.append_nil]
    · refine evStep (fun k => by rw [r4_Path.l0]) (evPos e (evSome ?_))
      rw [List.append_nil]
  | succ d ih =>
    intro v path hd v0 v1 hp
    have hne : ¬ v = t := fun e => by have := (hF.zero v v0 v1).2 e; omega
    have hhi := hF.hi v v0 v1
    have hw : wrap64 (rd far v - 1) = rd far v - 1 := by unfold wrap64; omega
    obtain ⟨y, hy⟩ : ∃ y, (succL l v).find? (fun y => rd far y == wrap64 (rd far v - 1)) = some y := by
      obtain ⟨w, h1, h2⟩ := hF.nxt v v0 v1 (by omega)
      rw [← Option.isSome_iff_exists, List.find?_isSome]
      exact ⟨w, h1, by simpa [hw] using h2⟩
    have hps : pstep far (succL l v) v = y := by unfold pstep; rw [hy]
    have hm : y ∈ succL l v := List.mem_of_find?_eq_some hy
    have hyf : rd far y = wrap64 (rd far v - 1) := by simpa using List.find?_some hy
    obtain ⟨_, _, y0, y1⟩ := hE _ _ hm
    obtain ⟨q, h1, h2, h3, h4, h5⟩ := ih y (path ++ [y]) (by omega) y0 y1 (by simp; omega)
    refine ⟨y :: q, by simp [h1], fun K hK => ?_, ?_, ⟨hm, h4⟩, ?_⟩
    · obtain ⟨K, rfl⟩ : ∃ K', K = K' + 1 := ⟨K - 1, by omega⟩
      rw [pathF, if_neg hne]
      simp only [hps]
      rw [h2 K (by omega)]
      simp
    · refine evStep (fun k => by rw [r4_Path.l0]) (evNeg hne ?_)
      refine refPath_l1 hF hE hn hl path (by omega) v v0 v1 (by omega) y _ ?_ (succL l v).length 0 (by omega) (by simpa using hy)
      rw [show path ++ y :: q = path ++ [y] ++ q by simp]
      exact h3
    · rw [List.getLast?_cons_cons]; exact h5
end
theorem distF_mono (l : List S53) : ∀ (k : Nat) (s : List Int × List Int) (r : List Int), distF l k s = some r → ∀ j, distF l (k + j) s = some r
  | 0, _, _, h, _ => by simp [distF] at h
  | k + 1, (far, []), r, h, j => by
    rw [show k + 1 + j = (k + j) + 1 by omega]
    simpa [distF] using h
  | k + 1, (far, v :: w), r, h, j => by
    rw [show k + 1 + j = (k + j) + 1 by omega]
    unfold distF at h ⊢
    simp only at h ⊢
    by_cases hc : w.length ≤ 100000
    · rw [if_pos hc] at h ⊢
      exact distF_mono l k _ r h j
    · rw [if_neg hc] at h
      cases h
structure IsPath (n : Nat) (l : List S53) (a b : Int) (p : List Int) : Prop where
  links : Links l p
  first : p.head? = some a
  last : p.getLast? = some b
  short : ∀ k, Way l k a b → p.length ≤ k + 1
  reach : Rch l a b
theorem path_both {n : Nat} {l : List S53} (hv : Valid n l) (a b : Int) : ∃ p ok, graph_Path.f n l a b = some (p, ok) ∧ Ev (fun k => r4_Path.f k n l a b) (p, ok) ∧ p.length ≤ n + 1 ∧ (ok = true → (0 ≤ a ∧ a < n) ∧ (0 ≤ b ∧ b < n) ∧ IsPath n l a b p) ∧
    (0 ≤ a → a < n → 0 ≤ b → b < n → Rch l a b → ok = true) := by
  have hn : (n : Int) ≤ 8192 := hv.n1
  have hc := (chk_zero _ _).2 hv
  have hll := hv.len
  by_cases ha : 0 ≤ a ∧ a < n
  · by_cases hb : 0 ≤ b ∧ b < n
    · obtain ⟨a0, a1⟩ := ha
      obtain ⟨b0, b1⟩ := hb
      obtain ⟨ws, h1, h2, h3⟩ := refDist_ev n (by omega) (revL l) (revL_valid hv).inn (by rw [revL_len]; omega) [b] (by simp)
      obtain ⟨ws', h1', _⟩ := dist_all (n := n) (by omega) (revL_valid hv).inn [b] 10000 (by omega)
      have e : ws' = ws := by
        have := distF_mono _ _ _ _ h1' 9990000
        rw [show 10000 + 9990000 = 10000000 by omega, h1] at this
        exact (Option.some.inj this).symm
      subst e
      rw [istep_one b0 b1] at h1'
      have hF := far_of hv b0 b1 h2
      have hP : graph_Path.f n l a b = if rd ws' a < 0 then some ([], false) else (pathF l ws' b 10000 (a, [a])).map fun p => (p, true) := by
        unfold graph_Path.f
        rw [if_pos ⟨⟨a0, a1, hc⟩, b0, b1⟩, Int.toNat_natCast]
        change (distF (revL l) 10000 _).bind _ = _
        rw [h1', Option.bind_some]
      have hR : ∀ R, (rd ws' a < 0 → R = ([], false)) → (¬ rd ws' a < 0 → Ev (fun k => r4_Path.l0 k b ws' (listsOf n l) [a] a) R) → Ev (fun k => r4_Path.f k n l a b) R := by
        intro R r1 r2
        unfold r4_Path.f
        refine evBind (refNode_ev n l a) (evPos (by simp [nodeB, a0, a1, hc]) (evBind (refNode_ev n l b) ?_))
        refine evStep (fun k => by rw [r4_Path.j0]) (evNeg (by simp [nodeB, b0, b1, hc]) ?_)
        have hrev := refRev_ev n l
        unfold revN at hrev
        rw [if_pos hc] at hrev
        refine evBind hrev (evBind h3 (evPos a0 (evPos (by rw [h2.len]; exact a1) ?_)))
        by_cases hneg : rd ws' a < 0
        · exact evPos hneg (evSome (r1 hneg).symm)
        · exact evNeg hneg (evBind (refLists_ev n (by omega) l (by omega) (fun x hx => by
            obtain ⟨c0, c1, _, _⟩ := hv.inn x.f0 x.f1 (mem_succL.2 hx)
            exact ⟨c0, c1⟩)) (r2 hneg))
      by_cases hneg : rd ws' a < 0
      · refine ⟨[], false, by rw [hP, if_pos hneg], hR _ (fun _ => rfl) (fun h => absurd hneg h), by simp, (fun h => by cases h), fun _ _ _ _ ⟨k, hk⟩ => ?_⟩
        have := (hF.way k a a0 a1 hk).1
        omega
      · have hhi := hF.hi a a0 a1
        obtain ⟨q, g1, g2, g3, g4, g5⟩ := path_run hF hv.inn (by omega) (by omega) (rd ws' a).toNat a [a] (by omega) a0 a1 (by simp; omega)
        refine ⟨a :: q, true, by rw [hP, if_neg hneg, g2 10000 (by omega)]; rfl, hR _ (fun h => absurd h hneg) (fun _ => g3), by simp [g1]; omega, fun _ => ⟨⟨a0, a1⟩, ⟨b0, b1⟩, g4, rfl, g5, fun k hk => ?_, hF.back a a0 a1 (by omega)⟩, fun _ _ _ _ _ => rfl⟩
        have := hF.way k a a0 a1 hk
        simp [g1]
        omega
    · refine ⟨[], false, ?_, ?_, by simp, (fun h => by cases h), fun _ _ h1 h2 => absurd ⟨h1, h2⟩ hb⟩
      · unfold graph_Path.f
        rw [if_neg (fun h => hb h.2)]
      · unfold r4_Path.f
        refine evBind (refNode_ev n l a) (evPos (by simp [nodeB, ha, hc]) (evBind (refNode_ev n l b) ?_))
        exact evStep (fun k => by rw [r4_Path.j0]) (evPos (by simp only [nodeB, Bool.not_eq_true', decide_eq_false_iff_not]; exact fun h => hb ⟨h.1, h.2.1⟩) (evSome rfl))
  · refine ⟨[], false, ?_, ?_, by simp, (fun h => by cases h), fun h1 h2 => absurd ⟨h1, h2⟩ ha⟩
    · unfold graph_Path.f
      rw [if_neg (fun h => ha ⟨h.1.1, h.1.2.1⟩)]
    · unfold r4_Path.f
      refine evBind (refNode_ev n l a) (evNeg ?_ (evStep (fun k => by rw [r4_Path.j0]) (evPos rfl (evSome rfl))))
      simp only [nodeB, decide_eq_true_eq]
      exact fun h => ha ⟨h.1, h.2.1⟩
end Go.Proofs.YtfgbkklhjocmjaaDoor.Xq
namespace Go.Proofs.YtfgbkklhjocmjaaDoor.Xq
open Go.RowKit Go.Proofs.YtfgbkklhjocmjaaDoorW.PrintWords Go.Proofs.YtfgbkklhjocmjaaDoorW.PrintLast Go.Proofs.YtfgbkklhjocmjaaDoor.Gv
theorem succN_len (n : Int) (l : List S53) (v : Int) : (succN n l v).length ≤ l.length := by
  unfold succN
  split
  · exact succL_len l v
  · simp
theorem evAwake : Ev (fun _ => w4_awake.f.bind fun t => some t) true := evBindK awake_eq (evSome rfl)
theorem way_of {l : List S53} (p : List Int) (hl : ∀ j (h : j + 1 < p.length), p[j + 1] ∈ succL l p[j]) : ∀ (m : Nat) (h : m < p.length), Way l m p[0] p[m]
  | 0, h => .nil _
  | m + 1, h => (way_of p hl m (by omega)).snoc (hl m h)
theorem links_at {l : List S53} : ∀ (p : List Int), Links l p → ∀ j (h : j + 1 < p.length), p[j + 1] ∈ succL l p[j]
  | [], _, j, h => by simp at h
  | [_], _, j, h => by simp at h
  | a :: b :: r, hp, 0, h => hp.1
  | a :: b :: r, hp, j + 1, h => links_at (b :: r) hp.2 j (by simpa using h)
theorem GraphShortest_l1 (n : Nat) (l : List S53) (hv : Valid n l) (a b : Int) (q p : List Int) (hp : Links l p) (hpl : p.length ≤ 1000000) (rest : Ev (fun k => (graph_Reach.f n l [a]).bind fun t => (w4_in.f k t b).bind fun t2 => if t2 = true then (w4_awake.f.bind fun t => some t) else some false) true) :
    ∀ (d i : Nat), i + d = p.length → 1 ≤ i → Ev (fun k => w4_GraphShortest.l1 k a b p (i : Int) n l) true := by
  intro d
  have hl := hv.len
  induction d with
  | zero =>
    intro i hi h1
    exact evStep (fun k => by rw [w4_GraphShortest.l1]) (evNeg (by omega) rest)
  | succ d ih =>
    intro i hi h1
    have hlt : i < p.length := by omega
    have IH := ih (i + 1) (by omega) (by omega)
    have w2 : wrap64 ((i : Int) - 1) = ((i - 1 : Nat) : Int) := by unfold wrap64; omega
    have hlk : p[i] ∈ succL l p[i - 1] := by
      have := links_at p hp (i - 1) (by omega)
      simpa [show i - 1 + 1 = i by omega] using this
    obtain ⟨v0, v1, _, _⟩ := hv.inn _ _ hlk
    have hs := succN_len n l p[i - 1]
    refine evStep (fun k => by rw [w4_GraphShortest.l1]) (evPos (by omega) ?_)
    rw [w2, wrapN (by omega), rdN hlt, rdN (show i - 1 < p.length by omega)]
    refine evPos (by omega) (evPos (by omega) (evBindK (succ_some n l p[i - 1]) (evPos (by omega) (evBind (evEq (refIn_ev _ _ (by omega)) (decide_eq_true ?_)) (evPos rfl IH)))))
    unfold succN
    rw [if_pos ⟨v0, v1, (chk_zero _ _).2 hv⟩]
    exact hlk
theorem GraphShortest_end (n : Nat) (l : List S53) (hv : Valid n l) (path : List Int) (hpos : 0 < path.length) (hlen : path.length ≤ 100) (hin : ∀ x ∈ path, 0 ≤ x ∧ x < n) (hlk : ∀ j (h : j + 1 < path.length), path[j + 1] ∈ succL l path[j]) :
    Ev (fun k => w4_GraphShortest.l0 k path (path.length : Int) n l) true := by
  have hn := hv.n1
  have W := way_of path hlk (path.length - 1) (by omega)
  have w2 : wrap64 ((path.length : Int) - 1) = ((path.length - 1 : Nat) : Int) := by unfold wrap64; omega
  obtain ⟨p, ok, k1, k2, k3, k4, k5⟩ := path_both hv path[0] path[path.length - 1]
  obtain ⟨a0, a1⟩ := hin path[0] (List.getElem_mem _)
  obtain ⟨b0, b1⟩ := hin path[path.length - 1] (List.getElem_mem _)
  have hok := k5 a0 a1 b0 b1 ⟨_, W⟩
  subst hok
  obtain ⟨_, _, hp⟩ := k4 rfl
  have hsh := hp.short _ W
  have hne : p ≠ [] := fun e => by have := hp.first; rw [e] at this; simp at this
  have hpp : 0 < p.length := List.length_pos_iff.2 hne
  have f0 : p[0] = path[0] := by
    have := hp.first
    rw [List.head?_eq_getElem?, List.getElem?_eq_getElem hpp] at this
    exact Option.some.inj this
  have f1 : p[p.length - 1] = path[path.length - 1] := by
    have := hp.last
    rw [List.getLast?_eq_getElem?, List.getElem?_eq_getElem (by omega)] at this
    exact Option.some.inj this
  have w3 : wrap64 ((p.length : Int) - 1) = ((p.length - 1 : Nat) : Int) := by unfold wrap64; omega
  refine evStep (fun k => by rw [w4_GraphShortest.l0]) (evNeg (by omega) (evPos (by omega) ?_))
  rw [w2, show rd path 0 = path[0] from rdN (i := 0) hpos, rdN (show path.length - 1 < path.length by omega)]
  refine evPos (by omega) (evPos (by omega) (evBindK k1 (evPos rfl ?_)))
  dsimp only
  refine evNeg (by omega) (evNeg (by omega) (evPos (by omega) ?_))
  rw [show rd p 0 = p[0] from rdN (i := 0) hpp, w3, rdN (show p.length - 1 < p.length by omega)]
  refine evPos f0 (evPos (by omega) (evPos (by omega) ?_))
  refine evStep (fun k => by rw [w4_GraphShortest.j2]) (evNeg (by simp [f1]) ?_)
  obtain ⟨out, g1, g2⟩ := reach_is hv [path[0]] (by simp)
  have ho := g1.len
  refine GraphShortest_l1 n l hv path[0] path[path.length - 1] path p hp.links (by omega) ?_ (p.length - 1) 1 (by omega) (by omega)
  refine evBindK g2 (evBind (evEq (refIn_ev _ _ (by omega)) (decide_eq_true ?_)) (evPos rfl evAwake))
  exact (g1.2 _).2 ⟨b0, b1, path[0], by simp, a0, a1, hp.reach⟩
theorem GraphShortest_l0 (n : Nat) (l : List S53) (hv : Valid n l) (path : List Int) (hpos : 0 < path.length) (hlen : path.length ≤ 100) : ∀ (d i : Nat), i + d = path.length → (∀ j (h : j < path.length), j < i → 0 ≤ path[j] ∧ path[j] < n) → (∀ j (h : j + 1 < path.length), j + 1 < i → path[j + 1] ∈ succL l path[j]) →
    Ev (fun k => w4_GraphShortest.l0 k path (i : Int) n l) true := by
  intro d
  have hl := hv.len
  induction d with
  | zero =>
    intro i hi hin hlk
    obtain rfl : i = path.length := by omega
    refine GraphShortest_end n l hv path hpos hlen (fun x hx => ?_) (fun j h => hlk j h h)
    obtain ⟨j, hj, rfl⟩ := List.getElem_of_mem hx
    exact hin j hj hj
  | succ d ih =>
    intro i hi hin hlk
    have hlt : i < path.length := by omega
    refine evStep (fun k => by rw [w4_GraphShortest.l0]) (evPos (by omega) (evPos (by omega) ?_))
    rw [rdN hlt, wrapN (by omega)]
    by_cases h0 : path[i] < 0
    · exact evPos h0 evAwake
    refine evNeg h0 ?_
    by_cases h1 : path[i] ≥ n
    · exact evPos h1 evAwake
    refine evNeg h1 ?_
    have hin2 : ∀ j (h : j < path.length), j < i + 1 → 0 ≤ path[j] ∧ path[j] < n := fun j h hj => by
      by_cases e : j = i
      · subst e; omega
      · exact hin j h (by omega)
    by_cases h2 : (i : Int) > 0
    · have w2 : wrap64 ((i : Int) - 1) = ((i - 1 : Nat) : Int) := by unfold wrap64; omega
      rw [w2, rdN (show i - 1 < path.length by omega)]
      have hs := succN_len n l path[i - 1]
      refine evPos h2 (evPos (by omega) (evPos (by omega) (evBind (refSucc_ev n l path[i - 1]) (evBind (refIn_ev _ _ (by omega)) ?_))))
      by_cases h3 : path[i] ∈ succN n l path[i - 1]
      · refine evPos (by simpa using h3) (ih (i + 1) (by omega) hin2 (fun j h hj => ?_))
        by_cases e : j + 1 = i
        · subst e
          unfold succN at h3
          split at h3
          · exact h3
          · cases h3
        · exact hlk j h (by omega)
      · exact evNeg (by simpa using h3) evAwake
    · refine evNeg h2 (ih (i + 1) (by omega) hin2 (fun j h hj => by omega))
theorem GraphShortest_pure (n : Int) (l : List S53) (path : List Int) : ∃ k, w4_GraphShortest.f k n l path = some true := by
  refine Ev.rounds ?_
  have J : Ev (fun k => w4_GraphShortest.j0 k path true n l) true := evStep (fun k => by rw [w4_GraphShortest.j0]) (evPos rfl evAwake)
  unfold w4_GraphShortest.f
  by_cases h : (l.length : Int) > 200
  · exact evPos h J
  refine evNeg h ?_
  by_cases h1 : (path.length : Int) = 0
  · exact evPos h1 J
  refine evNeg h1 ?_
  by_cases h2 : (path.length : Int) > 100
  · exact evPos h2 J
  refine evNeg h2 (evBind (refCheck_ev n l) ?_)
  by_cases hc : chk n l = 0
  · have hv := (chk_zero n l).1 hc
    obtain ⟨m, rfl⟩ := Int.eq_ofNat_of_zero_le hv.n0
    refine evStep (fun k => by rw [w4_GraphShortest.j0]) (evNeg (by simp [hc]) ?_)
    exact GraphShortest_l0 m l hv path (by omega) (by omega) path.length 0 (by omega) (fun j _ h => by omega) (fun j _ h => by omega)
  · rw [show (chk n l != 0) = true by simpa using hc]
    exact J
end Go.Proofs.YtfgbkklhjocmjaaDoor.Xq
namespace Go.Proofs.YtfgbkklhjocmjaaDoor.graphShortest
open Go.ChangeShapes Go.WideShapes Go.ChangeAt Go.RowKit
open Go.ChangeMaps (open_string shut_string)
theorem own : ownKnob Tryd.prog.godebug = none := by kernel_rfl
theorem laidOut : laidOutB Tryd.prog = true := by kernel_rfl
set_option maxRecDepth 100000 in
theorem lifted (os : Os) (started : os.Started) (H : Type) (enc : TypeId × Value → H) :
    ReturnsInHanded {} Tryd.checked os 8 .any (fun w args => (Rows.graphShortestSpec.pre enc Tryd.prog Tryd.f8 [] false w args ∧ laidMetH Tryd.prog Xq.laidT w) ∧ sizedMet enc Tryd.prog Tryd.f8 (OpenSpec.ofChange Rows.graphShortestSpec) false w args) (Rows.graphShortestSpec.post enc Tryd.prog Tryd.f8 false true false false) := by
  refine returnsInHanded_of_change_and (C := Tryd.checked) (X := fun w _ => laidMetH Tryd.prog Xq.laidT w) (fun _ _ _ hh h => h.of_heap hh) own started (by kernel_rfl) Tryd.func8
    (ChangeSpec.witness_shaped (enc := enc) (C := Tryd.checked) (os := os) (X := fun w _ => laidMetH Tryd.prog Xq.laidT w) false (World.doorLaid Tryd.prog 400 os) #[.agg #[.int .i64 0, .slice none 0 0], .slice none 0 0] 8 rfl (World.shaped_of_RefB (by kernel_rfl) (by kernel_rfl)) (by kernel_rfl) (by kernel_rfl) (by kernel_rfl) (Xq.door_met os _)) ?_
  intro W base args ds gs before hval0 hW _ hsz0 hL _
  have hsz : (DataW.weightsEach Tryd.prog (Tryd.f8.params.toList ++ Rows.graphShortestSpec.plain.varTypes Tryd.prog) (ds ++ gs)).all (· ≤ reachBytes) = true := hsz0
  have hval : ∀ (j : Nat) t v, Tryd.f8.params[j]? = some t → args[j]? = some v → Value.okWide Tryd.prog W .any base t v := hval0
  have hG := Xq.tabW_of_met hL
  have hW' := hW
  obtain ⟨p, q, hA0, hV, rfl, hfz, hnd⟩ := hW
  have hA : DataW.TrodAll enc Tryd.prog W 0 (fun _ => true) true Tryd.f8.params.toList args.toList ds p := hA0
  rw [Tryd.params8] at hA hval hsz
  obtain ⟨v0, vs0, d0, ds0, p0, q0, hargs, rfl, rfl, h0, r0⟩ := trodAll_cons hA
  obtain ⟨v1, vs1, d1, ds1, p1, q1, rfl, rfl, rfl, h1, r1⟩ := trodAll_cons r0
  obtain ⟨rfl, rfl, rfl⟩ := trodAll_nil r1
  obtain rfl : args = #[v0, v1] := by cases args; simp_all
  obtain ⟨rfl, rfl⟩ := trodVars_none hV
  have k0 := h0
  have lt0 : ∀ x ∈ p0, x.block < W.heap.size := by obtain ⟨m, hm⟩ := k0; exact DataW.trod_lt m _ _ _ hm
  obtain ⟨n0, A0, len0, cap0, l0, rfl, rfl, hcap0, hs0, hC0, hw0⟩ := Xq.open_graph hsz (j := 0) rfl rfl (hval 0 24 v0 rfl rfl) h0
  obtain ⟨A1, len1, cap1, rfl⟩ := okWide_slice Tryd.underlying31 (hval 1 31 v1 rfl rfl)
  have k1 := h1
  have lt1 : ∀ x ∈ p1, x.block < W.heap.size := by obtain ⟨m, hm⟩ := k1; exact DataW.trod_lt m _ _ _ hm
  obtain ⟨l1, rfl, hcap1, hs1, hC1, hw1⟩ := Xq.open_numbers hsz (j := 1) (t := 31) rfl rfl Tryd.underlying31 h1
  clear hA0 hval0 hsz0 hsz
  obtain ⟨k, hk⟩ := Xq.GraphShortest_pure n0 l0 l1
  refine (Xq.w4_GraphShortest.calls k n0 A0 cap0 l0 A1 cap1 l1 true W hC0 hcap0 hC1 hcap1 hG hk).mono fun e W' ⟨he, bel⟩ => ?_
  subst he
  exact ⟨_, rfl, _, _, _, [], _, [], hW', trodAll_mk1 (shut_bool Tryd.underlying4 _), (trodAll_cons_mk (Below.trod laidOut (by kernel_rfl) (of_decide_eq_true (by kernel_rfl)) k0 bel lt0) (trodAll_cons_mk (Below.trod laidOut (by kernel_rfl) (of_decide_eq_true (by kernel_rfl)) k1 bel lt1) trodAll_mk0)), rfl, bel.frame _, fun h => by cases h⟩
theorem over : Rows.graphShortestRow.holds Tryd.pinned (OpenSpec.ofChange Rows.graphShortestSpec) :=
  OpenClaim.holds_of_wide 8 Tryd.f8 rfl rfl rfl rfl rfl rfl rfl ⟨rfl, rfl, rfl, rfl, rfl⟩ rfl rfl rfl rfl rfl (by kernel_rfl) Tryd.func8 (by kernel_rfl)
    (of_decide_eq_true (by kernel_rfl)) (by unfold Func.isWrapper; first | (rw [if_pos (by decide +kernel)]; kernel_rfl) | (rw [if_neg (by decide +kernel)]; exact ⟨rfl, rfl⟩))
    (fun os started H enc _ => lifted os started H enc)
theorem card : Rows.GraphShortestCardSaid :=
  Claim7.holds_tied_plain_at .later [] [.data] true (true, "6edfda05db3e9c87ed9ac05de1d998720f094d24bf1f98e6008bbf5273ecd797") false
    over (fun _ h => by cases h) (by kernel_rfl) (fun _ h => by cases h) graphShortest_row_tie rfl ⟨rfl, rfl⟩ (by kernel_rfl) rfl
    (fun f fn hf hfn => by
      obtain rfl : f = 8 := Option.some.inj ((show Tryd.prog.funcNamed "dataflow/dataflowlaw04.GraphShortest" = some 8 by kernel_rfl).symm.trans hf) |>.symm
      obtain rfl : fn = Tryd.f8 := (Option.some.inj (Tryd.func8.symm.trans hfn)).symm
      exact ⟨by kernel_rfl, fun j t ht => by
        rw [Tryd.params8] at ht
        have hm : t ∈ [24, 31] := by simpa using Array.mem_of_getElem? ht
        have hall : ([24, 31].all fun u => !Tryd.prog.wantsStandIn u) = true := by kernel_rfl
        exact (show Tryd.prog.wantsStandIn t = false by simpa using List.all_eq_true.1 hall t hm)⟩)
    (by kernel_rfl)
#print axioms card
end Go.Proofs.YtfgbkklhjocmjaaDoor.graphShortest
namespace Go.Proofs.YtfgbkklhjocmjaaDoor
theorem graphShortest_holds : Rows.GraphShortestCardSaid := graphShortest.card
end Go.Proofs.YtfgbkklhjocmjaaDoor
