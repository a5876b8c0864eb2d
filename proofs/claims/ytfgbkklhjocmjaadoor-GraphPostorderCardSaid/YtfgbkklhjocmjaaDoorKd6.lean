/- Joined by a program out of this work's texts and the print's (what the law needs of them): GvQ3, GvP4, GvP5, LawGraphPostorder. -/
import Derived.Test.YtfgbkklhjocmjaaDoorKd5
import Derived.Test.YtfgbkklhjocmjaaDoorTie
import Derived.Test.YtfgbkklhjocmjaaDoorCards
import Derived.WalkKit
import Derived.ProofKit
import Derived.OpenShut
import Derived.ShutString
import Derived.ChangeOld
import Derived.Below
import Derived.SizedLaws
import Derived.SevenTiedAt
set_option linter.unusedVariables false
set_option linter.unusedSimpArgs false
namespace Go.Proofs.YtfgbkklhjocmjaaDoor.Xq
open Go.RowKit Go.Shelf Go.Proofs.YtfgbkklhjocmjaaDoorW.PrintWords Go.Proofs.YtfgbkklhjocmjaaDoorW.PrintLast Go.Proofs.YtfgbkklhjocmjaaDoor.Gv
def Behind (out : List Int) (v p : Int) : Prop := ∃ a b, out = a ++ v :: b ∧ p ∈ b
def Desc (l : List S53) : Prop := ∀ v w : Int, w ∈ succL l v → w < v
structure PO (n : Nat) (l : List S53) (root : Int) (gray : Int → Prop) (s : List Bool × List Int) : Prop where
  len : s.1.length = n
  nodes : ∀ v, v ∈ s.2 ∨ gray v → 0 ≤ v ∧ v < n
  seen : ∀ v : Int, 0 ≤ v → v < n → (s.1.getD v.toNat true = true ↔ v ∈ s.2 ∨ gray v)
  dis : ∀ v ∈ s.2, ¬ gray v
  nd : s.2.Nodup
  cl : ∀ v ∈ s.2, ∀ w ∈ succL l v, w ∈ s.2 ∨ gray w
  par : ∀ v ∈ s.2, v ≠ root → ∃ p, v ∈ succL l p ∧ (gray p ∨ Behind s.2 v p)
  rc : ∀ v, v ∈ s.2 ∨ gray v → Rch l root v
  ord : Desc l → ∀ a v b, s.2 = a ++ v :: b → ∀ w ∈ succL l v, w ∈ a
theorem getD_set_b {b : List Bool} {i j : Nat} (hi : i < b.length) : (b.set i true).getD j true = if i = j then true else b.getD j true := by
  by_cases h : i = j
  · subst h
    rw [if_pos rfl]
    simp [List.getD, hi]
  · rw [if_neg h]
    simp [List.getD, List.getElem?_set_ne h]
section
variable {n : Nat} {l : List S53} {root : Int}
theorem PO.enter {gray : Int → Prop} {s : List Bool × List Int} (h : PO n l root gray s) {v : Int} (v0 : 0 ≤ v) (v1 : v < n) (hs : s.1.getD v.toNat true = false) (hr : Rch l root v) :
    PO n l root (fun x => gray x ∨ x = v) (s.1.set v.toNat true, s.2) := by
  have hl : v.toNat < s.1.length := by rw [h.len]; omega
  have hns : ¬ (v ∈ s.2 ∨ gray v) := fun hc => by rw [(h.seen v v0 v1).2 hc] at hs; cases hs
  refine ⟨by show (s.1.set _ _).length = n; rw [List.length_set]; exact h.len, ?_, ?_, ?_, h.nd, ?_, ?_, ?_, h.ord⟩
  · rintro x (hx | hx | rfl)
    · exact h.nodes x (.inl hx)
    · exact h.nodes x (.inr hx)
    · exact ⟨v0, v1⟩
  · intro x x0 x1
    show (s.1.set v.toNat true).getD x.toNat true = true ↔ _
    rw [getD_set_b hl]
    by_cases e : v = x
    · subst e
      rw [if_pos rfl]
      simp
    · rw [if_neg (by omega), h.seen x x0 x1]
      constructor
      · rintro (h1 | h1)
        · exact .inl h1
        · exact .inr (.inl h1)
      · rintro (h1 | h1 | h1)
        · exact .inl h1
        · exact .inr h1
        · exact absurd h1.symm e
  · rintro x hx (h1 | rfl)
    · exact h.dis x hx h1
    · exact hns (.inl hx)
  · intro x hx w hw
    rcases h.cl x hx w hw with h1 | h1
    · exact .inl h1
    · exact .inr (.inl h1)
  · intro x hx hxr
    obtain ⟨p, h1, h2 | h2⟩ := h.par x hx hxr
    · exact ⟨p, h1, .inl (.inl h2)⟩
    · exact ⟨p, h1, .inr h2⟩
  · rintro x (hx | hx | rfl)
    · exact h.rc x (.inl hx)
    · exact h.rc x (.inr hx)
    · exact hr
theorem PO.start (n : Nat) (l : List S53) (root : Int) : PO n l root (fun _ => False) (List.replicate n false, []) := by
  refine ⟨by simp, by simp, ?_, by simp, by simp, by simp, by simp, by simp, by simp⟩
  intro v v0 v1
  have : v.toNat < n := by omega
  simp [List.getD, this]
end
end Go.Proofs.YtfgbkklhjocmjaaDoor.Xq
namespace Go.Proofs.YtfgbkklhjocmjaaDoor.Xq
open Go.RowKit Go.Proofs.YtfgbkklhjocmjaaDoorW.PrintWords Go.Proofs.YtfgbkklhjocmjaaDoorW.PrintLast Go.Proofs.YtfgbkklhjocmjaaDoor.Gv
theorem rdOf_seen {seen : List Bool} {w : Int} (w0 : 0 ≤ w) (w1 : w < seen.length) : rdOf false seen w = seen.getD w.toNat true := by
  have h : w.toNat < seen.length := by omega
  unfold rdOf
  simp [List.getD, h]
theorem getD_last {s : List Int} {x : Int} : rd (s ++ [x]) (s.length : Int) = x := by
  rw [rdN (by simp)]
  simp
theorem vstep_in {n : Nat} {l : List S53} {K : Nat} {s : List Bool × List Int} {w : Int} (hs : s.1.getD w.toNat true = true) : vstep l K s w = s := by
  unfold vstep
  rw [if_pos hs]
theorem vstep_new {n : Nat} {l : List S53} {K : Nat} {s : List Bool × List Int} {w : Int} (hs : s.1.getD w.toNat true = false) : vstep l K s w = visT l K w s := by
  unfold vstep
  rw [if_neg (by rw [hs]; simp)]
theorem refPost_in (n : Nat) (hn : n ≤ 100000) (l : List S53) (hE : Inn n l) (hl : l.length ≤ 1000000) (K : Nat)
    (push : ∀ (w : Int) (s : List Bool × List Int) (st dn : List Int) (R : List Int), cnt s.1 ≤ K → s.1.length = n → 0 ≤ w → w < n → s.1.getD w.toNat true = false → st.length = dn.length → s.2.length + cnt s.1 + st.length ≤ 1000000 →
      Ev (fun k => r4_Postorder.l0 k (visT l K w s).2 (listsOf n l) (visT l K w s).1 st dn) R →
      Ev (fun k => r4_Postorder.l0 k s.2 (listsOf n l) (s.1.set w.toNat true) (st ++ [w]) (dn ++ [0])) R) :
    ∀ (d : Nat) (v : Int) (j : Nat) (s : List Bool × List Int) (st dn : List Int) (R : List Int), j + d = (succL l v).length → cnt s.1 ≤ K → s.1.length = n → 0 ≤ v → v < n → st.length = dn.length → s.2.length + cnt s.1 + st.length + 1 ≤ 1000000 →
    Ev (fun k => r4_Postorder.l0 k ((((succL l v).drop j).foldl (vstep l K) s).2 ++ [v]) (listsOf n l) (((succL l v).drop j).foldl (vstep l K) s).1 st dn) R →
    Ev (fun k => r4_Postorder.l0 k s.2 (listsOf n l) s.1 (st ++ [v]) (dn ++ [(j : Int)])) R := by
  intro d
  induction d with
  | zero =>
    intro v j s st dn R hj hc hs v0 v1 hst hb rest
    rw [List.drop_eq_nil_of_le (by omega)] at rest
    have hsl := succL_len l v
    have w1 : wrap64 (((st ++ [v]).length : Int) - 1) = (st.length : Int) := by
      rw [List.length_append, List.length_singleton]
      unfold wrap64
      omega
    have l1 : (st ++ [v]).length = st.length + 1 := by simp
    have l2 : (dn ++ [(j : Int)]).length = st.length + 1 := by simp [hst]
    have r2 : rd (dn ++ [(j : Int)]) (st.length : Int) = (j : Int) := by rw [hst]; exact getD_last
    refine evStep (fun k => by rw [r4_Postorder.l0]) ?_
    rw [w1, getD_last, r2, rd_lists v0 v1, listsOf_length, l1, l2, Int.toNat_natCast, List.take_left' rfl, List.take_left' hst.symm]
    refine evPos (by omega) (evPos (by omega) (evPos (by omega) (evPos (by omega) (evPos v0 (evPos v1 (evPos (by omega) (evPos (by omega) (evPos (by omega) (evPos (by omega) rest)))))))))
  | succ d ih =>
    intro v j s st dn R hj hc hs v0 v1 hst hb rest
    have hlt : j < (succL l v).length := by omega
    have hm : (succL l v)[j] ∈ succL l v := List.getElem_mem hlt
    obtain ⟨_, _, w0, w1'⟩ := hE _ _ hm
    rw [List.drop_eq_getElem_cons hlt, List.foldl_cons] at rest
    have hsl := succL_len l v
    have w1 : wrap64 (((st ++ [v]).length : Int) - 1) = (st.length : Int) := by
      rw [List.length_append, List.length_singleton]
      unfold wrap64
      omega
    have l1 : (st ++ [v]).length = st.length + 1 := by simp
    have l2 : (dn ++ [(j : Int)]).length = st.length + 1 := by simp [hst]
    have r2 : rd (dn ++ [(j : Int)]) (st.length : Int) = (j : Int) := by rw [hst]; exact getD_last
    have s2 : (dn ++ [(j : Int)]).set st.length ((j + 1 : Nat) : Int) = dn ++ [((j + 1 : Nat) : Int)] := by
      rw [hst, List.set_append_right _ _ (Nat.le_refl _), Nat.sub_self]
      rfl
    refine evStep (fun k => by rw [r4_Postorder.l0]) ?_
    rw [w1, getD_last, r2, rd_lists v0 v1, listsOf_length, l1, l2, Int.toNat_natCast, wrapN (show j ≤ 1000000000 by omega), s2, rdN hlt]
    refine evPos (by omega) (evPos (by omega) (evPos (by omega) (evPos (by omega) (evPos v0 (evPos v1 (evNeg (by omega) (evBindK rfl ?_)))))))
    rw [rdOf_seen w0 (by rw [hs]; exact w1')]
    refine evPos (by omega) (evPos (by omega) (evPos w0 (evPos (by rw [hs]; exact w1') ?_)))
    by_cases hseen : s.1.getD (succL l v)[j].toNat true = true
    · rw [vstep_in (n := n) hseen] at rest
      exact evPos hseen (ih v (j + 1) s st dn R (by omega) hc hs v0 v1 hst hb rest)
    · have hseen' : s.1.getD (succL l v)[j].toNat true = false := by simpa using hseen
      rw [vstep_new (n := n) hseen'] at rest
      have kp := visT_keep l K (succL l v)[j] s hseen'
      refine evNeg hseen (evPos (by omega) (evPos (by simp; omega) ?_))
      refine push (succL l v)[j] s (st ++ [v]) (dn ++ [((j + 1 : Nat) : Int)]) R hc hs w0 w1' hseen' (by simp [hst]) (by simp; omega) ?_
      refine ih v (j + 1) (visT l K (succL l v)[j] s) st dn R (by omega) (by have := kp.2.1; omega) (by rw [kp.1, hs]) v0 v1 hst (by have := kp.2.2; omega) rest
theorem refPost_push (n : Nat) (hn : n ≤ 100000) (l : List S53) (hE : Inn n l) (hl : l.length ≤ 1000000) : ∀ (K : Nat) (w : Int) (s : List Bool × List Int) (st dn : List Int) (R : List Int), cnt s.1 ≤ K → s.1.length = n → 0 ≤ w → w < n → s.1.getD w.toNat true = false → st.length = dn.length → s.2.length + cnt s.1 + st.length ≤ 1000000 →
      Ev (fun k => r4_Postorder.l0 k (visT l K w s).2 (listsOf n l) (visT l K w s).1 st dn) R →
      Ev (fun k => r4_Postorder.l0 k s.2 (listsOf n l) (s.1.set w.toNat true) (st ++ [w]) (dn ++ [0])) R := by
  intro K
  induction K with
  | zero =>
    intro w s st dn R hc _ _ _ hs
    have := cnt_pos hs
    omega
  | succ K ih =>
    intro w s st dn R hc hlen w0 w1 hs hst hb rest
    have hcs := cnt_set hs
    rw [visT_succ] at rest
    have := refPost_in n hn l hE hl K ih (succL l w).length w 0 (s.1.set w.toNat true, s.2) st dn R (by omega) (by show cnt (s.1.set _ _) ≤ K; omega) (by show (s.1.set _ _).length = n; rw [List.length_set]; exact hlen) w0 w1 hst (by show s.2.length + cnt (s.1.set _ _) + st.length + 1 ≤ _; omega) (by rw [List.drop_zero]; exact rest)
    exact this
def postN (n : Int) (l : List S53) (root : Int) : List Int := if 0 ≤ root ∧ root < n ∧ chk n l = 0 then (visT l n.toNat root (List.replicate n.toNat false, [])).2 else []
theorem refPost_ev (n : Int) (l : List S53) (root : Int) : Ev (fun k => r4_Postorder.f k n l root) (postN n l root) := by
  unfold r4_Postorder.f postN
  refine evBind (refNode_ev n l root) ?_
  by_cases h : 0 ≤ root ∧ root < n ∧ chk n l = 0
  · rw [if_pos h]
    refine evPos (by simp [nodeB, h]) ?_
    obtain ⟨h0, h1, h2⟩ := h
    obtain ⟨m, rfl⟩ := Int.eq_ofNat_of_zero_le (Int.le_trans h0 (Int.le_of_lt h1))
    have hv := (chk_zero _ _).1 h2
    have hn := hv.n1
    have hll := hv.len
    refine evBind (refLists_ev m (by omega) l (by omega) (fun x hx => by
      obtain ⟨c0, c1, _, _⟩ := hv.inn x.f0 x.f1 (mem_succL.2 hx)
      exact ⟨c0, c1⟩)) (evPos (by omega) (evPos (by omega) (evBindK rfl (evPos h0 (evPos (by simp; omega) ?_)))))
    have hs : (List.replicate m false).getD root.toNat true = false := by
      have : root.toNat < m := by omega
      simp only [List.getD, List.getElem?_replicate, this, if_true, Option.getD_some]
    have := refPost_push m (by omega) l hv.inn (by omega) m root (List.replicate m false, []) [] [] (visT l m root (List.replicate m false, [])).2 (by rw [cnt_rep]; exact Nat.le_refl _) (by simp) h0 h1 hs rfl (by simp [cnt_rep]; omega)
      (evStep (fun k => by rw [r4_Postorder.l0]) (evNeg (by simp) (evSome rfl)))
    simpa using this
  · rw [if_neg h]
    refine evNeg ?_ (evSome rfl)
    simpa [nodeB] using h
theorem post_some (n : Int) (l : List S53) (root : Int) : graph_Postorder.f n l root = some (postN n l root) := rfl
end Go.Proofs.YtfgbkklhjocmjaaDoor.Xq
namespace Go.Proofs.YtfgbkklhjocmjaaDoor.Xq
open Go.RowKit Go.Proofs.YtfgbkklhjocmjaaDoorW.PrintWords Go.Proofs.YtfgbkklhjocmjaaDoorW.PrintLast Go.Proofs.YtfgbkklhjocmjaaDoor.Gv
theorem evAwake : Ev (fun _ => w4_awake.f.bind fun t => some t) true := evBindK awake_eq (evSome rfl)
theorem postN_len (n : Int) (l : List S53) (root : Int) : ((postN n l root).length : Int) ≤ 8192 := by
  unfold postN
  split
  · next h =>
    obtain ⟨h0, h1, h2⟩ := h
    have hn := ((chk_zero n l).1 h2).n1
    have hs : (List.replicate n.toNat false).getD root.toNat true = false := by
      have : root.toNat < n.toNat := by omega
      simp only [List.getD, List.getElem?_replicate, this, if_true, Option.getD_some]
    have := (visT_keep l n.toNat root (List.replicate n.toNat false, []) hs).2.2
    have e := cnt_rep n.toNat
    simp only [List.length_nil] at this
    omega
  · simp
theorem GraphPostorder_pure (n : Int) (l : List S53) (v : Int) : ∃ k, w4_GraphPostorder.f k n l v = some true := by
  refine Ev.rounds ?_
  unfold w4_GraphPostorder.f
  by_cases h : (l.length : Int) > 400
  · exact evPos h evAwake
  · have h1 := postN_len n l v
    exact evNeg h (evBindK (post_some n l v) (evBind (refPost_ev n l v) (evBind (refEqual_same rfl (by omega)) (evPos rfl evAwake))))
end Go.Proofs.YtfgbkklhjocmjaaDoor.Xq
namespace Go.Proofs.YtfgbkklhjocmjaaDoor.graphPostorder
open Go.ChangeShapes Go.WideShapes Go.ChangeAt Go.RowKit
open Go.ChangeMaps (open_string shut_string)
theorem own : ownKnob Tryd.prog.godebug = none := by kernel_rfl
theorem laidOut : laidOutB Tryd.prog = true := by kernel_rfl
set_option maxRecDepth 100000 in
theorem lifted (os : Os) (started : os.Started) (H : Type) (enc : TypeId × Value → H) :
    ReturnsInHanded {} Tryd.checked os 9 .any (fun w args => (Rows.graphPostorderSpec.pre enc Tryd.prog Tryd.f9 [] false w args ∧ laidMetH Tryd.prog Xq.laidT w) ∧ sizedMet enc Tryd.prog Tryd.f9 (OpenSpec.ofChange Rows.graphPostorderSpec) false w args) (Rows.graphPostorderSpec.post enc Tryd.prog Tryd.f9 false true false false) := by
  refine returnsInHanded_of_change_and (C := Tryd.checked) (X := fun w _ => laidMetH Tryd.prog Xq.laidT w) (fun _ _ _ hh h => h.of_heap hh) own started (by kernel_rfl) Tryd.func9
    (ChangeSpec.witness_shaped (enc := enc) (C := Tryd.checked) (os := os) (X := fun w _ => laidMetH Tryd.prog Xq.laidT w) false (World.doorLaid Tryd.prog 400 os) #[.agg #[.int .i64 0, .slice none 0 0], .int .i64 0] 8 rfl (World.shaped_of_RefB (by kernel_rfl) (by kernel_rfl)) (by kernel_rfl) (by kernel_rfl) (by kernel_rfl) (Xq.door_met os _)) ?_
  intro W base args ds gs before hval0 hW _ hsz0 hL _
  have hsz : (DataW.weightsEach Tryd.prog (Tryd.f9.params.toList ++ Rows.graphPostorderSpec.plain.varTypes Tryd.prog) (ds ++ gs)).all (· ≤ reachBytes) = true := hsz0
  have hval : ∀ (j : Nat) t v, Tryd.f9.params[j]? = some t → args[j]? = some v → Value.okWide Tryd.prog W .any base t v := hval0
  have hG := Xq.tabW_of_met hL
  have hW' := hW
  obtain ⟨p, q, hA0, hV, rfl, hfz, hnd⟩ := hW
  have hA : DataW.TrodAll enc Tryd.prog W 0 (fun _ => true) true Tryd.f9.params.toList args.toList ds p := hA0
  rw [Tryd.params9] at hA hval hsz
  obtain ⟨v0, vs0, d0, ds0, p0, q0, hargs, rfl, rfl, h0, r0⟩ := trodAll_cons hA
  obtain ⟨v1, vs1, d1, ds1, p1, q1, rfl, rfl, rfl, h1, r1⟩ := trodAll_cons r0
  obtain ⟨rfl, rfl, rfl⟩ := trodAll_nil r1
  obtain rfl : args = #[v0, v1] := by cases args; simp_all
  obtain ⟨rfl, rfl⟩ := trodVars_none hV
  have k0 := h0
  have lt0 : ∀ x ∈ p0, x.block < W.heap.size := by obtain ⟨m, hm⟩ := k0; exact DataW.trod_lt m _ _ _ hm
  obtain ⟨n0, A0, len0, cap0, l0, rfl, rfl, hcap0, hs0, hC0, hw0⟩ := Xq.open_graph hsz (j := 0) rfl rfl (hval 0 24 v0 rfl rfl) h0
  obtain ⟨a1, rfl, rfl, rfl, w1⟩ := open_int Tryd.underlying3 (hval 1 3 v1 rfl rfl) h1
  clear hA0 hval0 hsz0 hsz
  obtain ⟨k, hk⟩ := Xq.GraphPostorder_pure n0 l0 a1
  refine (Xq.w4_GraphPostorder.calls k n0 A0 cap0 l0 a1 true W hC0 hcap0 hG hk).mono fun e W' ⟨he, bel⟩ => ?_
  subst he
  exact ⟨_, rfl, _, _, _, [], _, [], hW', trodAll_mk1 (shut_bool Tryd.underlying4 _), (trodAll_cons_mk (Below.trod laidOut (by kernel_rfl) (of_decide_eq_true (by kernel_rfl)) k0 bel lt0) (trodAll_cons_mk (shut_int Tryd.underlying3 w1) trodAll_mk0)), rfl, bel.frame _, fun h => by cases h⟩
theorem over : Rows.graphPostorderRow.holds Tryd.pinned (OpenSpec.ofChange Rows.graphPostorderSpec) :=
  OpenClaim.holds_of_wide 9 Tryd.f9 rfl rfl rfl rfl rfl rfl rfl ⟨rfl, rfl, rfl, rfl, rfl⟩ rfl rfl rfl rfl rfl (by kernel_rfl) Tryd.func9 (by kernel_rfl)
    (of_decide_eq_true (by kernel_rfl)) (by unfold Func.isWrapper; first | (rw [if_pos (by decide +kernel)]; kernel_rfl) | (rw [if_neg (by decide +kernel)]; exact ⟨rfl, rfl⟩))
    (fun os started H enc _ => lifted os started H enc)
theorem card : Rows.GraphPostorderCardSaid :=
  Claim7.holds_tied_plain_at .later [] [.data] true (true, "6edfda05db3e9c87ed9ac05de1d998720f094d24bf1f98e6008bbf5273ecd797") false
    over (fun _ h => by cases h) (by kernel_rfl) (fun _ h => by cases h) graphPostorder_row_tie rfl ⟨rfl, rfl⟩ (by kernel_rfl) rfl
    (fun f fn hf hfn => by
      obtain rfl : f = 9 := Option.some.inj ((show Tryd.prog.funcNamed "dataflow/dataflowlaw04.GraphPostorder" = some 9 by kernel_rfl).symm.trans hf) |>.symm
      obtain rfl : fn = Tryd.f9 := (Option.some.inj (Tryd.func9.symm.trans hfn)).symm
      exact ⟨by kernel_rfl, fun j t ht => by
        rw [Tryd.params9] at ht
        have hm : t ∈ [24, 3] := by simpa using Array.mem_of_getElem? ht
        have hall : ([24, 3].all fun u => !Tryd.prog.wantsStandIn u) = true := by kernel_rfl
        exact (show Tryd.prog.wantsStandIn t = false by simpa using List.all_eq_true.1 hall t hm)⟩)
    (by kernel_rfl)
#print axioms card
end Go.Proofs.YtfgbkklhjocmjaaDoor.graphPostorder
namespace Go.Proofs.YtfgbkklhjocmjaaDoor
theorem graphPostorder_holds : Rows.GraphPostorderCardSaid := graphPostorder.card
end Go.Proofs.YtfgbkklhjocmjaaDoor
