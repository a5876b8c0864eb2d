/- Joined by a program out of this work's texts and the print's (what the law needs of them): GvTab, GvRowTab, GvCmp, GvAs, GvRow, GvLay, GvSort, Xq0, Xq1, GvCompact, GvRows, GvSortE, GvSpec, Xr1, GvMake, GvOpen, GvOpenG, GvTz, Xl1, GvList, Xr2, GvBsf, GvNext, GvChk, GvAdd. -/
import Derived.Test.YtfgbkklhjocmjaaDoorKg1
import Derived.WalkKit
import Derived.Below
import Derived.Lib.TrailingZeros
import Derived.Test.YtfgbkklhjocmjaaDoorRows
import Derived.Lib.LaidTab
import Derived.MakeChecks
import Derived.LaidMore
import Derived.Stop.Joined
import Derived.Test.YtfgbkklhjocmjaaDoorProg
import Derived.KernelRfl
import Derived.StillTailTactics
import Derived.LoopTactic
import Derived.Outline
import Derived.Deep.Draws
import Derived.Lib.Walk
import Derived.Lib.SliceRun
import Derived.Lib.SlicesCompact
import Derived.Shelf.GgSortFunc.RowK
import Derived.Shelf.SlSortFuncK.ComposeK
import Derived.Shelf.SlSortCmp.WholeK
import Derived.Shelf.Small.Bits
import Derived.Shelf.SlGeneric
import Derived.Ground.SlsfProg
import Derived.Ground.NamesProg
import Derived.Deep.AppendLies
import Derived.Maps.AppendAt
import Derived.OwnWalk
import Derived.Laws.BytesArg
import Derived.Laws.MakeOwn
import Derived.Laws.OwnMore
import Derived.Deep.OwnRows
import Derived.Tactics
import Derived.Lib.ConvBytes
import Derived.Laws.Slices
import Derived.RowKit3
import Derived.Deep.LoopGhost
import Derived.Deep.QuietTactic
import Derived.BigQuiet
import Derived.WideLaws
import Derived.Deep.DeepCutAuto
import Derived.Deep.CutBlock
import Derived.Deep.RegionHeld3
import Derived.Laws.Rows
import Derived.Lib.AppendStr
import Derived.ArgAppend
import Derived.Laws.IdiomCopy
import Derived.OrdersHeld
import Derived.Laws.BitsLemmas
import Derived.RowKit
import Derived.Laws.CopyRow
import Derived.Deep.SlicePairs
import Derived.ProofKit
import Derived.SizedLaws
import Derived.Lib.SmallJoins
import Derived.Shelf.Spec.TrailingZeros
import Derived.Laws.Bits64b
import Derived.Deep.DeepMust
import Derived.RangeFuncNested
import Derived.RangeFuncBound
import Derived.RangeFuncCalls
import Derived.RangeFuncLeaves
import Derived.Shelf.Abstract
import Derived.Shelf.RegionOpen
import Derived.OwnWalkIn
import Derived.TacticsInMore
import Derived.LoopNIn
import Derived.LoopIn
import Derived.Sort.QuietIn
import Derived.RangeFuncOwn
set_option linter.unusedVariables false
set_option linter.unusedSimpArgs false
namespace Go.Proofs.YtfgbkklhjocmjaaDoor.Xq
open Go.RowKit
def TabW (w : World) : Prop := ∀ j, j < 64 → w.cell? ⟨0, j, none⟩ = some (.int .u8 (Lib.deBruijn64tab.getD j 0 : Nat))
theorem TabW.below {w w' : World} (h : TabW w) (hb : Below w.heap.size w w') : TabW w' := fun j hj => (hb.cell (World.block_lt_of_cell? _ _ (h j hj))).trans (h j hj)
end Go.Proofs.YtfgbkklhjocmjaaDoor.Xq
namespace Go.Proofs.YtfgbkklhjocmjaaDoor.Xq
open Go.RowKit
def laidT : List (String × DataW Unit) := [("math/bits.deBruijn64tab", Rows.laid_math_bits_deBruijn64tab)]
theorem tab_data : (Rows.laid_math_bits_deBruijn64tab : DataW Unit) = Lib.tabData .u8 (Lib.deBruijn64tab.map Int.ofNat) := rfl
theorem gTab : Tryd.prog.globalNamed "math/bits.deBruijn64tab" = some 0 := by kernel_rfl
theorem tab_len : (Lib.deBruijn64tab.map Int.ofNat).length = 64 := by decide
theorem tabW_of_met {W : World} (h : laidMetH Tryd.prog laidT W) : TabW W := by
  rw [MakeChecks.laidMetH_plain _ _ _ (by kernel_rfl)] at h
  unfold laidT at h
  rw [tab_data] at h
  have ht := Lib.tabIs_of_head (t := 114) (e := 5) (n := 64) gTab (by kernel_rfl) (by kernel_rfl) (by kernel_rfl) (by kernel_rfl) (by kernel_rfl) h
  intro j hj
  have := ht.cell gTab j (by rw [tab_len]; exact hj)
  rw [this]
  congr 2
  have hl : Lib.deBruijn64tab.length = 64 := by decide
  simp [List.getD, hl, hj]
theorem door_met (os : Os) (args : Array Value) : laidMetH Tryd.prog laidT ((World.doorLaid Tryd.prog 400 os).forCall (fun _ _ => 0) ⟨#[], args, []⟩).memory :=
  laidMetH_of_parts3 (fuel := 8) (laidMet_of_run' 8 (by kernel_rfl) (by kernel_rfl)) (by kernel_rfl) (by kernel_rfl)
end Go.Proofs.YtfgbkklhjocmjaaDoor.Xq
namespace Go.Proofs.YtfgbkklhjocmjaaDoor.Gv
open Go.RowKit
def cmpI (a b : Int) : Int := if a < b then -1 else if b < a then 1 else 0
theorem isNaN_calls (a : Int) (w : World) : Calls Tryd.prog 110 #[.int .i64 a] w fun e w' => e = .returned (.bool false) ∧ w = w' := by
  go_enter Tryd.func110, Tryd.ntmps110
  go_wp2
  go_ret
  exact ⟨rfl, rfl⟩
theorem compare_calls (a b : Int) (w : World) : Calls Tryd.prog 92 #[.int .i64 a, .int .i64 b] w fun e w' => e = .returned (.int .i64 (cmpI a b)) ∧ w = w' := by
  unfold cmpI
  by_cases h1 : a < b
  · go_enter Tryd.func92, Tryd.ntmps92
    go_wp2_with (go_at_call 110; refine (isNaN_calls _ _).mono ?_; rintro e w' ⟨rfl, rfl⟩)
    go_ret
    exact ⟨by simp, rfl⟩
  · by_cases h2 : b < a
    · go_enter Tryd.func92, Tryd.ntmps92
      go_wp2_with (go_at_call 110; refine (isNaN_calls _ _).mono ?_; rintro e w' ⟨rfl, rfl⟩)
      go_ret
      exact ⟨by simp, rfl⟩
    · go_enter Tryd.func92, Tryd.ntmps92
      go_wp2_with (go_at_call 110; refine (isNaN_calls _ _).mono ?_; rintro e w' ⟨rfl, rfl⟩)
      go_ret
      exact ⟨by simp, rfl⟩
def orI (a b : Int) : Int := if a = 0 then b else a
theorem orI_zero (b : Int) : orI 0 b = b := by simp [orI]
theorem orI_ne {a b : Int} (h : a ≠ 0) : orI a b = a := by simp [orI, h]
theorem or_calls (a b : Int) (g c : Nat) (w : World) (h0 : w.cell? ⟨g, 0, none⟩ = some (.int .i64 a)) (h1 : w.cell? ⟨g, 1, none⟩ = some (.int .i64 b)) : Calls Tryd.prog 91 #[.slice (some ⟨g, 0, none⟩) 2 c] w fun e w' => e = .returned (.int .i64 (orI a b)) ∧ w = w' := by
  go_enter Tryd.func91, Tryd.ntmps91
  go_wp2
  go_loop [8] (fun i => ∃ k : Nat, i = .int .i64 k ∧ k ≤ 2 ∧ (k = 0 ∨ (1 ≤ k ∧ a = 0)) ∧ (k ≤ 1 ∨ b = 0)) (fun i => 2 - (intOf i).toNat)
  case atStart => exact ⟨0, rfl, by omega, by omega, by omega⟩
  case round =>
    obtain ⟨k, rfl, hk, h2, h3⟩ := hrel
    obtain rfl | rfl | rfl : k = 0 ∨ k = 1 ∨ k = 2 := by omega
    · go_wp2
      · have ha : (a != 0) = true := by assumption
        have ha' : a ≠ 0 := by simpa using ha
        go_ret
        exact ⟨by rw [orI_ne ha']; rfl, rfl⟩
      · have ha : (a != 0) = false := by assumption
        have ha' : a = 0 := by simpa using ha
        exact ⟨⟨1, rfl, by omega, by omega, by omega⟩, by simp [intOf]⟩
    · obtain rfl : a = 0 := by omega
      go_wp2
      · go_ret
        exact ⟨by rw [orI_zero]; rfl, rfl⟩
      · have hb : (b != 0) = false := by assumption
        have hb' : b = 0 := by simpa using hb
        exact ⟨⟨2, rfl, by simp, by simp, by simp [hb']⟩, by simp [intOf]⟩
    · obtain rfl : a = 0 := by omega
      obtain rfl : b = 0 := by omega
      go_wp2
      go_ret
      exact ⟨by rw [orI_zero]; rfl, rfl⟩
structure Asd (p : Prop) : Prop where mk :: (out : p)
theorem two_boxes (w : World) (x0 x1 y0 y1 : Value) (h0 : x0.oneCell' = true) (t1 t2 : TypeId) (W : World) (hW : W = ((w.alloc (.cells #[x0, x1] t1)).alloc (.cells #[y0, y1] t2)).drew) :
    W.cell? ⟨w.heap.size, 0, none⟩ = some x0 ∧ W.cell? ⟨w.heap.size, 1, none⟩ = some x1 ∧ W.cell? ⟨w.heap.size + 1, 0, none⟩ = some y0 ∧ W.cell? ⟨w.heap.size + 1, 1, none⟩ = some y1 := by
  subst hW
  refine ⟨?_, ?_, ?_, ?_⟩ <;> go_simp
set_option maxRecDepth 100000 in
theorem flow_compare_calls (a0 a1 b0 b1 : Int) (w : World) : Calls Tryd.prog 68 #[.agg #[.int .i64 a0, .int .i64 a1], .agg #[.int .i64 b0, .int .i64 b1]] w fun e w' => e = .returned (.int .i64 (orI (cmpI a0 b0) (cmpI a1 b1))) ∧ ∃ n o1 o2 o3, w' = (((w.alloc o1).alloc o2).alloc o3).drewN n := by
  go_enter Tryd.func68, Tryd.ntmps68
  go_wp2_with fail
  refine wp_region_still_tail 10 (by kernel_rfl) (by kernel_rfl) ?_
  simp only [List.take_succ_cons, List.take_zero, List.drop_succ_cons, List.drop_zero]
  obtain ⟨W, hW⟩ : ∃ W, W = ((w.alloc (.cells #[.int .i64 a0, .int .i64 a1] 53)).alloc (.cells #[.int .i64 b0, .int .i64 b1] 53)).drew := ⟨_, rfl⟩
  obtain ⟨c0, c1, c2, c3⟩ := two_boxes w _ _ _ _ rfl _ _ W hW
  have HW := Asd.mk hW
  change wpStill _ _ (World.drew _) (fun a' => wpList _ _ _ _ a' (World.drew _)) _ _
  rw [← hW]
  clear hW
  still_step
  still_step
  still_step
  still_step
  still_call ((compare_calls _ _ _).mono fun _ _ h => ⟨h.1, h.2.symm⟩)
  still_step
  still_step
  still_step
  still_step
  still_call ((compare_calls _ _ _).mono fun _ _ h => ⟨h.1, h.2.symm⟩)
  refine wpStill_nil ?_
  go_wp2_with (go_at_call 91; refine (or_calls (cmpI a0 b0) (cmpI a1 b1) _ _ _ ?h0 ?h1).mono ?_; (case h0 => go_simp); (case h1 => go_simp); rintro e w' ⟨rfl, rfl⟩)
  go_ret
  exact ⟨rfl, by rw [HW.out]; exact ⟨1, _, _, _, rfl⟩⟩
end Go.Proofs.YtfgbkklhjocmjaaDoor.Gv
namespace Go.Proofs.YtfgbkklhjocmjaaDoor.Gv
structure As2 (p : Prop) : Prop where mk :: (out : p)
end Go.Proofs.YtfgbkklhjocmjaaDoor.Gv
namespace Go.Proofs.YtfgbkklhjocmjaaDoor.Gv
open Go.RowKit Go.Lib Go.Sort
def encP (x : Int × Int) : List Value := [.int .i64 x.1, .int .i64 x.2]
theorem encP_len (x : Int × Int) : (encP x).length = 2 := rfl
theorem encP_one (x : Int × Int) : ∀ v ∈ encP x, v.oneCell' = true := by
  intro v hv
  simp [encP] at hv
  rcases hv with rfl | rfl <;> rfl
theorem eqP (x y : Int × Int) : (x.1 == y.1 && x.2 == y.2) = decide (x = y) := by
  rw [Bool.eq_iff_iff]; simp [Prod.ext_iff]
theorem setMany_one (dk : Array (Int × Int)) (i : Nat) (x : Int × Int) (hi : i < dk.size) : setMany (flatK encP 2 dk) (i * 2) (encP x) = flatK encP 2 (dk.setIfInBounds i x) := by
  refine ext_get! (by simp) fun t ht => ?_
  have ht' : t < dk.size * 2 := by simpa using ht
  rw [get_setMany _ _ _ t (by simpa using ht'), get_flatK _ _ _ t ht', get_flatK _ _ _ t (by simpa using ht')]
  have L := encP_len x
  by_cases c : i * 2 ≤ t ∧ t < i * 2 + 2
  · rw [if_pos (by rw [L]; exact c)]
    have e : t / 2 = i := by omega
    rw [e, getElem!_set_same dk i x hi, show t % 2 = t - i * 2 by omega]
  · rw [if_neg (by rw [L]; exact c), getElem!_set_other dk i _ x (by omega)]
theorem setMany_lay : ∀ (xs : List (Int × Int)) (dk : Array (Int × Int)) (k : Nat), k + xs.length ≤ dk.size → setMany (flatK encP 2 dk) (k * 2) (xs.flatMap encP) = flatK encP 2 (lay dk k xs)
  | [], _, _, _ => rfl
  | x :: r, dk, k, h => by
    have h' : k + (r.length + 1) ≤ dk.size := by simpa using h
    have := setMany_lay r (dk.setIfInBounds k x) (k + 1) (by simp; omega)
    rw [lay, ← this, ← setMany_one dk k x (by omega), show (k + 1) * 2 = k * 2 + 1 + 1 by omega]
    rfl
theorem store_worldP {w wr : World} {n blk off : Nat} {dk : Array (Int × Int)} {i : Nat} (hi : i < dk.size) (hwr : wr = putRowK encP 2 (Sort.ahead w n) blk off dk) (x : Int × Int) :
    (wr.setCell ⟨blk, off + i * 2, none⟩ (.int .i64 x.1)).setCell ⟨blk, off + i * 2 + 1, none⟩ (.int .i64 x.2) = putRowK encP 2 (Sort.ahead w n) blk off (dk.setIfInBounds i x) := by
  subst hwr
  unfold putRowK
  rw [← setMany_one dk i x hi, ← setCells_putRow _ _ _ _ _ _ (by simp [encP_len]; omega)]
  rfl
theorem drew_worldP {w wr : World} {n blk off : Nat} {dk : Array (Int × Int)} (hwr : wr = putRowK encP 2 (Sort.ahead w n) blk off dk) (q : Nat) : wr.drewN q = putRowK encP 2 (Sort.ahead w (n + q)) blk off dk := by
  rw [hwr, putRowK_drewN]
theorem clear_worldP {w wr : World} {n blk off : Nat} {dk : Array (Int × Int)} {k m : Nat} (hm : k + m ≤ dk.size) (hwr : wr = putRowK encP 2 (Sort.ahead w n) blk off dk) :
    wr.setCells blk (off + k * 2) (List.replicate (m * 2) (.int .i64 0)) = putRowK encP 2 (Sort.ahead w n) blk off (lay dk k (List.replicate m (0, 0))) := by
  subst hwr
  unfold putRowK
  have e : List.replicate (m * 2) (Value.int .i64 0) = (List.replicate m ((0, 0) : Int × Int)).flatMap encP := by
    clear hm
    induction m with
    | zero => rfl
    | succ m ih => rw [List.replicate_succ, List.flatMap_cons, ← ih, show (m + 1) * 2 = m * 2 + 1 + 1 by omega, List.replicate_succ, List.replicate_succ]; rfl
  rw [← setMany_lay _ dk k (by simpa using hm), e, setCells_putRow _ _ _ _ _ _ (by rw [← e]; simp; omega)]
theorem run_clear_pairs {P : Program} (w : World) (t e ty : TypeId) (ht : P.underlying t = some (.slice e)) (hv : ∀ w, (zeroValue e).run P w = .ok (.agg #[.int .i64 0, .int .i64 0]) w) (b o n c : Nat) (hn : 0 < n)
    (hc : ∀ j, j < n * 2 → (w.cell? ⟨b, o + j, none⟩).isSome = true) (hf : ∀ j, j < n * 2 → w.frozen? ⟨b, o + j, none⟩ = false) :
    (Builtin.clear_ #[t] ty #[.slice (some ⟨b, o, none⟩) n c]).run P w = .ok (.tuple #[]) (w.setCells b o (List.replicate (n * 2) (.int .i64 0))) := by
  have hzc : (Builtin.zeroCells (Value.agg #[.int .i64 0, .int .i64 0]).cells n).toList = List.replicate (n * 2) (.int .i64 0) := by
    simp [Builtin.zeroCells, Value.cells]
    apply List.ext_getElem
    · simp
    · intro i h1 h2
      simp
      have : i % 2 = 0 ∨ i % 2 = 1 := by omega
      rcases this with h | h <;> simp [h]
  have hst := run_storeCells_cells (P := P) b o (List.replicate (n * 2) (.int .i64 0)) 0 w (by simpa using hc) (by simpa using hf) (by intro v hv'; rw [List.eq_of_mem_replicate hv']; rfl)
  simp only [Nat.add_zero] at hst
  obtain ⟨m, rfl⟩ : ∃ m, n = m + 1 := ⟨n - 1, by omega⟩
  simp [Builtin.clear_, run_underlying ht, hv, hzc, hst]
theorem heap_grow {w : World} {k : Nat} (h : k < w.heap.size) (os : Array Obj) : (grow w os).heap[k]? = w.heap[k]? := by
  show (w.heap ++ os)[k]? = _
  rw [Array.getElem?_append_left h]
end Go.Proofs.YtfgbkklhjocmjaaDoor.Gv
namespace Go.Proofs
open Go.Shelf
def Tryd.pdqP_ren : Go.Shelf.Ren := ⟨fun | 14 => 89 | 20 => 100 | 21 => 101 | 22 => 102 | 23 => 103 | 24 => 104 | 25 => 105 | 26 => 106 | 27 => 107 | 46 => 122 | 47 => 123 | 48 => 124 | 49 => 125 | 50 => 126 | 15 => 90 | 57 => 130 | 28 => 108 | 29 => 109 | n => n, fun | 24 => 53 | 22 => 22 | 3 => 3 | 25 => 85 | 4 => 4 | 0 => 0 | 46 => 117 | 45 => 116 | 50 => 108 | 66 => 133 | 39 => 105 | 55 => 87 | 70 => 137 | 76 => 141 | 77 => 142 | 53 => 123 | 5 => 5 | 9 => 9 | n => n, fun | n => n⟩
theorem Tryd.pdqP : Go.Proofs.SlLaysF0.n14 Tryd.prog Tryd.pdqP_ren := {
  mixed := by kernel_rfl
  f14 := ⟨Tryd.f89.name, by decide, Tryd.func89.trans (congrArg some (by kernel_rfl))⟩
  f15 := Tryd.func90.trans (congrArg some (by kernel_rfl))
  f20 := ⟨Tryd.f100.name, by decide, Tryd.func100.trans (congrArg some (by kernel_rfl))⟩
  f21 := ⟨Tryd.f101.name, by decide, Tryd.func101.trans (congrArg some (by kernel_rfl))⟩
  f22 := ⟨Tryd.f102.name, by decide, Tryd.func102.trans (congrArg some (by kernel_rfl))⟩
  f23 := ⟨Tryd.f103.name, by decide, Tryd.func103.trans (congrArg some (by kernel_rfl))⟩
  f24 := ⟨Tryd.f104.name, by decide, Tryd.func104.trans (congrArg some (by kernel_rfl))⟩
  f25 := ⟨Tryd.f105.name, by decide, Tryd.func105.trans (congrArg some (by kernel_rfl))⟩
  f26 := ⟨Tryd.f106.name, by decide, Tryd.func106.trans (congrArg some (by kernel_rfl))⟩
  f27 := ⟨Tryd.f107.name, by decide, Tryd.func107.trans (congrArg some (by kernel_rfl))⟩
  f28 := Tryd.func108.trans (congrArg some (by kernel_rfl))
  f29 := Tryd.func109.trans (congrArg some (by kernel_rfl))
  f46 := ⟨Tryd.f122.name, by decide, Tryd.func122.trans (congrArg some (by kernel_rfl))⟩
  f47 := Tryd.func123.trans (congrArg some (by kernel_rfl))
  f48 := Tryd.func124.trans (congrArg some (by kernel_rfl))
  f49 := ⟨Tryd.f125.name, by decide, Tryd.func125.trans (congrArg some (by kernel_rfl))⟩
  f50 := ⟨Tryd.f126.name, by decide, Tryd.func126.trans (congrArg some (by kernel_rfl))⟩
  f57 := ⟨Tryd.f130.name, by decide, Tryd.func130.trans (congrArg some (by kernel_rfl))⟩
  t0 := Tryd.underlying0
  a0 := Tryd.isAgg0
  z0 := Tryd.sizeOf0
  v0 := Tryd.zeroValue0
  t3 := Tryd.underlying3
  a3 := Tryd.isAgg3
  z3 := Tryd.sizeOf3
  v3 := Tryd.zeroValue3
  t4 := Tryd.underlying4
  a4 := Tryd.isAgg4
  z4 := Tryd.sizeOf4
  v4 := Tryd.zeroValue4
  t5 := Tryd.underlying5
  a5 := Tryd.isAgg5
  z5 := Tryd.sizeOf5
  v5 := Tryd.zeroValue5
  t9 := Tryd.underlying9
  a9 := Tryd.isAgg9
  z9 := Tryd.sizeOf9
  v9 := Tryd.zeroValue9
  t22 := Tryd.underlying22
  a22 := Tryd.isAgg22
  z22 := Tryd.sizeOf22
  v22 := Tryd.zeroValue22
  t25 := Tryd.underlying85
  a25 := Tryd.isAgg85
  z25 := Tryd.sizeOf85
  v25 := Tryd.zeroValue85
  t39 := Tryd.underlying105
  a39 := Tryd.isAgg105
  z39 := Tryd.sizeOf105
  v39 := Tryd.zeroValue105
  t45 := Tryd.underlying116
  a45 := Tryd.isAgg116
  z45 := Tryd.sizeOf116
  v45 := Tryd.zeroValue116
  t46 := Tryd.underlying117
  a46 := Tryd.isAgg117
  z46 := Tryd.sizeOf117
  v46 := Tryd.zeroValue117
  t50 := Tryd.underlying108
  a50 := Tryd.isAgg108
  z50 := Tryd.sizeOf108
  v50 := Tryd.zeroValue108
  t53 := Tryd.underlying123
  a53 := Tryd.isAgg123
  z53 := Tryd.sizeOf123
  v53 := Tryd.zeroValue123
  t55 := Tryd.underlying87
  a55 := Tryd.isAgg87
  z55 := Tryd.sizeOf87
  v55 := Tryd.zeroValue87
  t66 := Tryd.underlying133
  a66 := Tryd.isAgg133
  z66 := Tryd.sizeOf133
  v66 := Tryd.zeroValue133
  t70 := Tryd.underlying137
  a70 := Tryd.isAgg137
  z70 := Tryd.sizeOf137
  v70 := Tryd.zeroValue137
  t76 := Tryd.underlying141
  a76 := Tryd.isAgg141
  z76 := Tryd.sizeOf141
  v76 := Tryd.zeroValue141
  t77 := Tryd.underlying142
  a77 := Tryd.isAgg142
  z77 := Tryd.sizeOf142
  v77 := Tryd.zeroValue142 }
def Tryd.bitsLen_ren : Go.Shelf.Ren := ⟨fun | 125 => 90 | 128 => 108 | 129 => 109 | n => n, fun | 46 => 105 | 3 => 3 | 51 => 123 | 53 => 87 | 4 => 4 | 5 => 5 | 9 => 9 | n => n, fun | n => n⟩
theorem Tryd.bitsLen : Go.Proofs.Lays.n125 Tryd.prog Tryd.bitsLen_ren := {
  mixed := by kernel_rfl
  f125 := Tryd.func90.trans (congrArg some (by kernel_rfl))
  f128 := Tryd.func108.trans (congrArg some (by kernel_rfl))
  f129 := Tryd.func109.trans (congrArg some (by kernel_rfl))
  t3 := Tryd.underlying3
  a3 := Tryd.isAgg3
  z3 := Tryd.sizeOf3
  v3 := Tryd.zeroValue3
  t4 := Tryd.underlying4
  a4 := Tryd.isAgg4
  z4 := Tryd.sizeOf4
  v4 := Tryd.zeroValue4
  t5 := Tryd.underlying5
  a5 := Tryd.isAgg5
  z5 := Tryd.sizeOf5
  v5 := Tryd.zeroValue5
  t9 := Tryd.underlying9
  a9 := Tryd.isAgg9
  z9 := Tryd.sizeOf9
  v9 := Tryd.zeroValue9
  t46 := Tryd.underlying105
  a46 := Tryd.isAgg105
  z46 := Tryd.sizeOf105
  v46 := Tryd.zeroValue105
  t51 := Tryd.underlying123
  a51 := Tryd.isAgg123
  z51 := Tryd.sizeOf123
  v51 := Tryd.zeroValue123
  t53 := Tryd.underlying87
  a53 := Tryd.isAgg87
  z53 := Tryd.sizeOf87
  v53 := Tryd.zeroValue87 }
end Go.Proofs
namespace Go.Proofs.YtfgbkklhjocmjaaDoor.Gv
open Go.RowKit Go.Lib Go.Sort Go.Shelf
def cmpP (x y : Int × Int) : Int := orI (cmpI x.1 y.1) (cmpI x.2 y.2)
def ltP (x y : Int × Int) : Bool := decide (x.1 < y.1 ∨ (x.1 = y.1 ∧ x.2 < y.2))
theorem lt_cmpP (x y : Int × Int) : ltOf cmpP x y = ltP x y := by
  unfold ltOf cmpP ltP orI cmpI
  by_cases h1 : x.1 < y.1
  · simp [h1]
  · by_cases h2 : y.1 < x.1
    · have : ¬ x.1 = y.1 := by omega
      simp [h1, h2, this]
    · have e : x.1 = y.1 := by omega
      by_cases h3 : x.2 < y.2
      · simp [e, h3]
      · by_cases h4 : y.2 < x.2 <;> simp [e, h3, h4]
theorem swoP : SWO (ltOf cmpP) where
  irrefl x := by rw [lt_cmpP]; simp [ltP]
  trans x y z h1 h2 := by rw [lt_cmpP] at *; simp [ltP] at *; omega
  ntrans x y z h1 h2 := by rw [lt_cmpP] at *; simp [ltP] at *; omega
def srtP (d : Array (Int × Int)) : Array (Int × Int) := pdq (ltOf cmpP) d 0 d.size (Lib.bitLen d.size) true true
theorem cmpLaysP (blk off size : Nat) (w : World) : CmpLays Tryd.prog 68 #[] encP 2 cmpP blk off size w :=
  fun _ _ _ _ x y => (flow_compare_calls x.1 x.2 y.1 y.2 _).mono fun e w' h => ⟨h.1, by
    obtain ⟨n, o1, o2, o3, rfl⟩ := h.2
    exact ⟨n, #[o1, o2, o3], by rw [alloc_eq_grow, alloc_eq_grow, alloc_eq_grow, grow_grow, grow_grow]; rfl⟩⟩
theorem isAgg53 (w : World) : (isAgg 53).run Tryd.prog w = .ok true w := by kernel_rfl
theorem sizeOf53 (w : World) : (Go.sizeOf 53).run Tryd.prog w = .ok 2 w := by kernel_rfl
set_option maxHeartbeats 1000000 in
theorem sortFunc_calls (blk off cap : Nat) (d : Array (Int × Int)) (w : World) (hH : HoldsK encP 2 w blk off d) (hblk : blk < w.heap.size) (hsz : d.size < 4611686018427387904) :
    Calls Tryd.prog 67 #[.slice (some ⟨blk, off, none⟩) d.size cap, .func (.func 68) #[] #[]] w fun e w' => e = .returned (.tuple #[]) ∧ ∃ n os, w' = sortWorldK encP 2 w blk off n (srtP d) os := by
  have eg : ∀ args w, (callFunc 68 args).run Tryd.prog w = .ok (.enter 68 args) w := enters_of Tryd.func68 (by kernel_rfl) rfl
  have hlim : Lib.bitLen d.size < 4611686018427387904 := Nat.lt_of_le_of_lt (Lib.bitLen_le d.size 62 (by omega) (by omega)) (by omega)
  have hp := AnyQ.pdqsortCmpFunc_all Tryd.pdqP 2 isAgg53 sizeOf53 encP cmpP 68 #[] swoP blk off cap d w eg (cmpLaysP blk off d.size w) ⟨encP_len, encP_one, hH, hblk⟩ (d.size + 1) 0 d.size (Lib.bitLen d.size) d w (by omega) rfl (SWK.start hH) (Nat.zero_le _) (Nat.le_refl _) hsz hlim (Or.inl rfl)
  change Calls Tryd.prog 89 _ _ _ at hp
  have hl : Calls Tryd.prog 90 #[.int .u64 (d.size : Int)] w fun e w' => e = .returned (.int .i64 (Lib.bitLen d.size : Nat)) ∧ w' = w := by
    have h := Any.bits_Len Tryd.bitsLen (d.size : Int) w (by omega) (by omega)
    rwa [Int.toNat_natCast] at h
  have wr : IntKind.u64.wrap (d.size : Int) = d.size := by simp [IntKind.wrap, IntKind.bits, IntKind.signed]; omega
  have hpost : ∀ w', SWK encP 2 w blk off (pdq (ltOf cmpP) d 0 d.size (Lib.bitLen d.size) true true) w' → ∃ n os, w' = sortWorldK encP 2 w blk off n (srtP d) os := fun w' h => h
  generalize pdq (ltOf cmpP) d 0 d.size (Lib.bitLen d.size) true true = pd at hp hpost
  generalize srtP d = sd at hpost ⊢
  clear hH
  go_enter Tryd.func67, Tryd.ntmps67
  go_wp2_with (first | (go_at_call 90; refine hl.mono ?_; rintro e w' ⟨rfl, rfl⟩) | (go_at_call 89; refine hp.mono ?_; rintro e w' ⟨rfl, h⟩))
  go_end0
  exact ⟨rfl, hpost _ h⟩
end Go.Proofs.YtfgbkklhjocmjaaDoor.Gv
namespace Go.Proofs.YtfgbkklhjocmjaaDoor.Xq
open Go.RowKit Go.Proofs.YtfgbkklhjocmjaaDoorW.PrintWords Go.Proofs.YtfgbkklhjocmjaaDoorW.PrintLast Go.Proofs.YtfgbkklhjocmjaaDoorW.PrintMore
attribute [local go_sem] max2_int min2_int max_two min_two max_three min_three max_four min_four
def errW : Option Int → Value
 | none => .nilIface
 | some c => .iface 0 (.int .i64 c)
theorem errW_none : errW none = .nilIface := rfl
theorem errW_some (c : Int) : errW (some c) = .iface 0 (.int .i64 c) := rfl
theorem info3 : (Tryd.prog.info? 3).map (fun i => (i.zero,i.size,i.bytes)) = some (some (.int .i64 0),1,8) := by kernel_rfl
structure S53 where
 f0 : Int
 f1 : Int
def z53 : S53 := ⟨(0 : Int),(0 : Int)⟩
def k53 : Kd S53 := Kd.iso (Kd.pair (Kd.int .i64) (Kd.int .i64)) (fun x : S53 => (x.f0,x.f1))
theorem k53_open {w : World} {x : S53} {cs : List Value} (h : k53.K w x cs) : cs = [.int .i64 x.f0,.int .i64 x.f1] := by
 obtain ⟨_,_,rfl,rfl,rfl⟩ := h
 exact rfl
theorem k53_openM {w : World} {base : Nat} {ok : Nat → Prop} {x : S53} {cs : List Value} (h : k53.M w base ok x cs) : cs = [.int .i64 x.f0,.int .i64 x.f1] := by
 obtain ⟨_,_,rfl,rfl,rfl⟩ := h
 exact rfl
theorem k53_mk (w : World) (x : S53)  : k53.K w x [.int .i64 x.f0,.int .i64 x.f1] := ⟨[.int .i64 x.f0],[.int .i64 x.f1],rfl,rfl,rfl⟩
theorem k53_mkM (w : World) (base : Nat) (ok : Nat → Prop) (x : S53)  : k53.M w base ok x [.int .i64 x.f0,.int .i64 x.f1] := ⟨[.int .i64 x.f0],[.int .i64 x.f1],rfl,rfl,rfl⟩
def rd_T53 (xs : List S53) (i : Int) : S53 := xs.getD i.toNat z53
theorem at_T53 {w : World} {A : Option Addr} {n : Nat} {xs : List S53} (h : Kd.C k53 w A n xs) (i : Int) (h0 : 0 ≤ i) (h1 : i < n) : ∃ ad ,A = some ad ∧ w.cell? (ad.add (i.toNat * 2)) = some (.int .i64 (rd_T53 xs i).f0) ∧ w.cell? ⟨(ad.add (i.toNat * 2)).block,(ad.add (i.toNat * 2)).off + 1,none⟩ = some (.int .i64 (rd_T53 xs i).f1) := by
 obtain ⟨ad,c,e,_,hK,hc0⟩ := Kd.C_get h z53 i h0 h1
 have hc : ∀ j u,c[j]? = some u → w.cell? (ad.add (i.toNat * 2 + j)) = some u := hc0
 obtain rfl := k53_open hK
 exact ⟨ad,e,hc 0 _ rfl,by rw [← add_field _ _ 1 (by omega)]; exact hc 1 _ rfl⟩
end Go.Proofs.YtfgbkklhjocmjaaDoor.Xq
namespace Go.Proofs.YtfgbkklhjocmjaaDoor.Xq
open Go.RowKit Go.Proofs.YtfgbkklhjocmjaaDoorW.PrintWords Go.Proofs.YtfgbkklhjocmjaaDoorW.PrintLast Go.Proofs.YtfgbkklhjocmjaaDoorW.PrintMore
attribute [local go_sem] max2_int min2_int max_two min_two max_three min_three max_four min_four
theorem eqA53 (d : Nat) (w : World) (x0 y0 : Int) (x1 y1 : Int) :
  (Op.equalIn (d + 2) 53 (.agg #[.int .i64 x0,.int .i64 x1]) (.agg #[.int .i64 y0,.int .i64 y1])).run Tryd.prog w = .ok (x0 == y0 && (x1 == y1)) w := by
 refine eqA_of Tryd.underlying53 (by kernel_rfl) ?_
 refine eqf_cons (by rfl) (by go_simp; rfl) (by go_simp; rfl) (by go_simp) ?_
 exact eqf_last (by rfl) (by go_simp; rfl) (by go_simp; rfl) (by go_simp)
end Go.Proofs.YtfgbkklhjocmjaaDoor.Xq
namespace Go.Proofs.YtfgbkklhjocmjaaDoor.Gv
open Go.RowKit Go.Lib Go.Sort Go.Proofs.YtfgbkklhjocmjaaDoor.Xq
attribute [local go_sem high] eqA53
set_option maxHeartbeats 1000000 in
set_option maxRecDepth 100000 in
theorem compact_calls (blk off cap : Nat) (d : Array (Int × Int)) (w : World) (hH : HoldsK encP 2 w blk off d) (hcap : d.size ≤ cap) (hsz : d.size ≤ 4611686018427387904) :
    Calls Tryd.prog 69 #[.slice (some ⟨blk, off, none⟩) d.size cap] w fun e w' => e = .returned (.slice (some ⟨blk, off, none⟩) (compactUpTo d d.size).length cap) ∧ ∃ q, w' = putRowK encP 2 (Sort.ahead w q) blk off (compactUpTo d d.size ++ List.replicate (d.size - (compactUpTo d d.size).length) (0, 0)).toArray := by
  have same : ∀ q, (∀ j, j < d.size → keeps d j = true) → (compactUpTo d d.size).length = d.size ∧ w.drewN q = putRowK encP 2 (Sort.ahead w q) blk off (compactUpTo d d.size ++ List.replicate (d.size - (compactUpTo d d.size).length) (0, 0)).toArray := by
    intro q hall
    have e : compactUpTo d d.size = d.toList := by rw [compactUpTo_all d _ hall, range_map_get]
    rw [e]
    refine ⟨by simp, ?_⟩
    simp only [Array.length_toList, Nat.sub_self, List.replicate_zero, List.append_nil, Array.toArray_toList]
    exact (putRowK_self encP 2 (Sort.ahead w q) blk off d (holdsK_ahead encP 2 w q blk off d hH)).symm
  have HS := As2.mk same
  clear same
  by_cases h2 : d.size < 2
  · have HH := As2.mk hH
    clear hH
    go_enter Tryd.func69, Tryd.ntmps69
    go_wp2
    go_ret
    obtain ⟨e1, e2⟩ := HS.out 0 (fun j hj => keeps_lt_one d j (by omega))
    exact ⟨by rw [e1]; rfl, 0, e2⟩
  · go_enter Tryd.func69, Tryd.ntmps69
    go_wp2
    go_loopg [3] d.size (fun g s3 wr => ∃ k q : Nat, 1 ≤ k ∧ k ≤ d.size ∧ d.size - k ≤ g ∧ s3 = .int .i64 k ∧ wr = w.drewN q ∧ As2 (∀ j, j < k → keeps d j = true))
    case atStart => exact ⟨1, 0, Nat.le_refl _, by omega, by omega, rfl, rfl, ⟨keeps_lt_one d⟩⟩
    case round =>
      obtain ⟨k, q, hk1, hk, hg, rfl, rfl, A⟩ := hrel
      have HH := As2.mk hH
      clear hH
      by_cases hlt : k < d.size
      · obtain ⟨j, rfl⟩ : ∃ j, k = j + 1 := ⟨k - 1, by omega⟩
        obtain ⟨x, hx⟩ : ∃ x, d[j + 1]! = x := ⟨_, rfl⟩
        obtain ⟨y, hy⟩ : ∃ y, d[j]! = y := ⟨_, rfl⟩
        have c1 := (HH.out.cell (i := j + 1) (c := 0) hlt (by omega)).1
        have c2 := (HH.out.cell (i := j + 1) (c := 1) hlt (by omega)).1
        have c3 := (HH.out.cell (i := j) (c := 0) (by omega) (by omega)).1
        have c4 := (HH.out.cell (i := j) (c := 1) (by omega) (by omega)).1
        rw [hx] at c1 c2
        rw [hy] at c3 c4
        simp only [encP, Nat.add_zero, List.getElem!_cons_zero, List.getElem!_cons_succ] at c1 c2 c3 c4
        have B := As2.mk (And.intro hx hy)
        clear hx hy
        have E := eqP x y
        by_cases hdup : x = y
        · have E1 : (x.1 == y.1 && x.2 == y.2) = true := by rw [E]; simpa using hdup
          have HD := As2.mk hdup
          clear hdup E
          go_wp2
          go_quiet (fail)
          go_wp2
          clear c1 c2 c3 c4 E1
          go_loopg [3, 5] d.size (fun g s3 s5 wr => ∃ (kk k2 q2 : Nat) (dk : Array (Int × Int)), s3 = .int .i64 kk ∧ s5 = .int .i64 k2 ∧ 1 ≤ k2 ∧ j + 1 + k2 ≤ d.size ∧ d.size - (j + 1 + k2) ≤ g ∧ As2 (wr = putRowK encP 2 (Sort.ahead w q2) blk off dk) ∧ As2 (CompInv d (j + 1 + k2) kk dk))
          case atStart => exact ⟨j + 1, 1, q + nq, d, rfl, rfl, Nat.le_refl _, by omega, by omega, ⟨(putRowK_self encP 2 (Sort.ahead w (q + nq)) blk off d (holdsK_ahead encP 2 w (q + nq) blk off d HH.out)).symm⟩, ⟨CompInv.start A.out (keeps_neg (by omega) (by rw [B.out.1, Nat.add_sub_cancel, B.out.2, HD.out]))⟩⟩
          case round =>
            obtain ⟨kk, k2, q2, dk, rfl, rfl, h1, hle, hg2, W2, I2⟩ := hrel
            have hkk := I2.out.lt
            have hds := I2.out.size
            have HDS := As2.mk hds
            have hHk : HoldsK encP 2 wr blk off dk := by rw [W2.out]; exact holdsK_putRowK encP 2 _ blk off d dk (holdsK_ahead encP 2 w q2 blk off d HH.out) hds
            have HHk := As2.mk hHk
            clear hHk hds
            by_cases hlt2 : j + 1 + k2 < d.size
            · obtain ⟨i2, rfl⟩ : ∃ i2, k2 = i2 + 1 := ⟨k2 - 1, by omega⟩
              obtain ⟨u, hu⟩ : ∃ u, d[j + 1 + (i2 + 1)]! = u := ⟨_, rfl⟩
              obtain ⟨v, hv⟩ : ∃ v, d[j + 1 + i2]! = v := ⟨_, rfl⟩
              have c1 := (HHk.out.cell (i := j + 1 + (i2 + 1)) (c := 0) (by rw [HDS.out]; omega) (by omega)).1
              have c2 := (HHk.out.cell (i := j + 1 + (i2 + 1)) (c := 1) (by rw [HDS.out]; omega) (by omega)).1
              have c3 := (HHk.out.cell (i := j + 1 + i2) (c := 0) (by rw [HDS.out]; omega) (by omega)).1
              have c4 := (HHk.out.cell (i := j + 1 + i2) (c := 1) (by rw [HDS.out]; omega) (by omega)).1
              have c5 := (HHk.out.cell (i := kk) (c := 0) (by rw [HDS.out]; omega) (by omega))
              have c6 := (HHk.out.cell (i := kk) (c := 1) (by rw [HDS.out]; omega) (by omega))
              rw [I2.out.high _ (by omega), hu, show off + (j + 1 + (i2 + 1)) * 2 = off + (j + 1) * 2 + (i2 + 1) * 2 by omega] at c1 c2
              rw [I2.out.high _ (by omega), hv, show off + (j + 1 + i2) * 2 = off + (j + 1) * 2 + i2 * 2 by omega] at c3 c4
              generalize dk[kk]! = old at c5 c6
              simp only [encP, Nat.add_zero, List.getElem!_cons_zero, List.getElem!_cons_succ] at c1 c2 c3 c4 c5 c6
              obtain ⟨c5, f5⟩ := c5
              obtain ⟨c6, f6⟩ := c6
              have C := As2.mk (And.intro hu hv)
              clear hu hv
              have E := eqP u v
              by_cases huv : u = v
              · have E1 : (u.1 == v.1 && u.2 == v.2) = true := by rw [E]; simpa using huv
                have HD2 := As2.mk huv
                clear huv E
                go_wp2
                go_quiet (fail)
                go_wp2
                go_roundg (d.size - (j + 1 + (i2 + 2)))
                case measure => omega
                case rel => exact ⟨kk, i2 + 2, q2 + nq, dk, rfl, by go_num, by omega, by omega, by omega, ⟨drew_worldP W2.out _⟩, ⟨I2.out.skip (keeps_neg (by omega) (by rw [C.out.1, HD2.out, ← C.out.2]; rfl))⟩⟩
              · have E1 : (u.1 == v.1 && u.2 == v.2) = false := by rw [E]; simpa using huv
                have HD2 := As2.mk huv
                clear huv E
                go_wp2
                go_quiet (fail)
                go_wp2
                go_roundg (d.size - (j + 1 + (i2 + 2)))
                case measure => omega
                case rel => exact ⟨kk + 1, i2 + 2, q2 + nq, dk.setIfInBounds kk u, by go_num, by go_num, by omega, by omega, by omega, ⟨store_worldP (by rw [HDS.out]; omega) (drew_worldP W2.out _) u⟩, ⟨by
                  have z := I2.out.keep hlt2 (keeps_pos (by rw [C.out.1, show j + 1 + (i2 + 1) - 1 = j + 1 + i2 by omega, C.out.2]; exact HD2.out))
                  rwa [C.out.1] at z⟩⟩
            · have hend : j + 1 + k2 = d.size := by omega
              have hcl : ∀ ty, (Builtin.clear_ #[22] ty #[.slice (some ⟨blk, off + kk * 2, none⟩) (d.size - kk) (cap - kk)]).run Tryd.prog wr = .ok (.tuple #[]) (wr.setCells blk (off + kk * 2) (List.replicate ((d.size - kk) * 2) (.int .i64 0))) :=
                fun ty => run_clear_pairs wr 22 53 ty Tryd.underlying22 Tryd.zeroValue53 blk (off + kk * 2) _ _ (by omega)
                  (fun t ht => by
                    have z := (HHk.out.cell (i := kk + t / 2) (c := t % 2) (by rw [HDS.out]; omega) (by omega)).1
                    rw [show off + (kk + t / 2) * 2 + t % 2 = off + kk * 2 + t by omega] at z
                    rw [z]; rfl)
                  (fun t ht => by
                    have z := (HHk.out.cell (i := kk + t / 2) (c := t % 2) (by rw [HDS.out]; omega) (by omega)).2
                    rwa [show off + (kk + t / 2) * 2 + t % 2 = off + kk * 2 + t by omega] at z)
              go_wp2
              go_ret
              have hI := I2.out
              rw [hend] at hI
              refine ⟨by rw [hI.len]; rfl, q2, ?_⟩
              rw [hI.len, ← hI.done (0, 0), ← clear_worldP (by rw [HDS.out]; omega) W2.out]
        · have E1 : (x.1 == y.1 && x.2 == y.2) = false := by rw [E]; simpa using hdup
          have HD := As2.mk hdup
          clear hdup E
          go_wp2
          go_quiet (fail)
          go_wp2
          go_roundg (d.size - (j + 2))
          case measure => omega
          case rel => exact ⟨j + 2, q + nq, by omega, by omega, by omega, by go_num, rfl, ⟨fun i hi => by
            by_cases e : i < j + 1
            · exact A.out i e
            · obtain rfl : i = j + 1 := by omega
              exact keeps_pos (by rw [B.out.1, Nat.add_sub_cancel, B.out.2]; exact HD.out)⟩⟩
      · go_wp2
        go_ret
        obtain ⟨e1, e2⟩ := HS.out q (fun j hj => A.out j (by omega))
        exact ⟨by rw [e1]; rfl, q, e2⟩
end Go.Proofs.YtfgbkklhjocmjaaDoor.Gv
namespace Go.Proofs.YtfgbkklhjocmjaaDoor.Xq
open Go.RowKit Go.Lib Go.Sort Go.Proofs.YtfgbkklhjocmjaaDoorW.PrintWords Go.Proofs.YtfgbkklhjocmjaaDoorW.PrintLast Go.Proofs.YtfgbkklhjocmjaaDoor.Gv
def toP (x : S53) : Int × Int := (x.f0, x.f1)
def ofP (x : Int × Int) : S53 := ⟨x.1, x.2⟩
def flP (l : List (Int × Int)) : List Value := l.flatMap encP
theorem flP_len (l : List (Int × Int)) : (flP l).length = l.length * 2 := by
  induction l with
  | nil => rfl
  | cons x r ih => simp only [flP, List.flatMap_cons, List.length_append, encP_len] at ih ⊢; rw [ih]; simp; omega
theorem flP_get : ∀ (l : List (Int × Int)) (j : Nat) (v : Value), (flP l)[j]? = some v → ∃ x, l[j / 2]? = some x ∧ (encP x)[j % 2]? = some v
  | [], j, v, h => by simp [flP] at h
  | x :: r, j, v, h => by
    rcases Nat.lt_or_ge j 2 with hj | hj
    · refine ⟨x, by rw [show j / 2 = 0 by omega]; rfl, ?_⟩
      simp only [flP, List.flatMap_cons] at h
      rw [List.getElem?_append_left (by rw [encP_len]; exact hj)] at h
      rw [show j % 2 = j by omega]; exact h
    · simp only [flP, List.flatMap_cons] at h
      rw [List.getElem?_append_right (by rw [encP_len]; exact hj), encP_len] at h
      obtain ⟨y, h1, h2⟩ := flP_get r (j - 2) v h
      exact ⟨y, by rw [show j / 2 = (j - 2) / 2 + 1 by omega]; exact h1, by rw [show j % 2 = (j - 2) % 2 by omega]; exact h2⟩
theorem flP_flatK (l : List (Int × Int)) : (flP l).toArray = flatK encP 2 l.toArray := by
  refine ext_get! (by simp [flP_len]) fun t ht => ?_
  have ht' : t < l.length * 2 := by simpa [flP_len] using ht
  rw [get_flatK _ _ _ _ (by simpa using ht')]
  have hlt : t < (flP l).length := by rw [flP_len]; exact ht'
  obtain ⟨x, h1, h2⟩ := flP_get l t _ (List.getElem?_eq_getElem hlt)
  have e : (l.toArray)[t / 2]! = x := by
    rw [getElem!_pos _ _ (by simp; omega)]
    simpa using (List.getElem?_eq_some_iff.1 h1).2
  rw [e, getElem!_pos _ _ (by simpa using hlt)]
  obtain ⟨h3, h4⟩ := List.getElem?_eq_some_iff.1 h2
  rw [getElem!_pos (encP x) (t % 2) h3, h4]
  simp
theorem alloc_setRow (w : World) (a b : Array Value) (t : TypeId) : (w.alloc (.cells a t)).setRow w.heap.size b = w.alloc (.cells b t) := by
  unfold World.setRow World.alloc
  congr 1
  apply Array.ext
  · simp
  · intro i h1 h2
    simp only [Array.getElem_modify, Array.getElem_push]
    by_cases c : i < w.heap.size
    · simp [c, Nat.ne_of_gt c]
    · have : i = w.heap.size := by simp at h2; omega
      subst this
      simp
def sortDedup (l : List (Int × Int)) : List (Int × Int) := compactUpTo (srtP l.toArray) (srtP l.toArray).size
theorem srtP_size (d : Array (Int × Int)) : (srtP d).size = d.size := (pdq_sorts (ltOf cmpP) swoP d 0 d.size (Lib.bitLen d.size) true true (Nat.zero_le _) (Nat.le_refl _) (Or.inl rfl)).1.1
theorem heap_putRow_pre {α : Type} [Inhabited α] (enc : α → Value) {w : World} {g t : Nat} {c : Array Value} {fr : Nat × Nat} (hg : w.heap[g]? = some (.cells c t fr)) (d : Array α) : (putRow enc w g 0 d).heap[g]? = some (.cells (putCells enc 0 d c) t fr) := by
  unfold putRow mapBlock
  simp only [Array.getElem?_modify, if_true, hg, Option.map_some, onCells]
theorem putCells_size {α : Type} [Inhabited α] (enc : α → Value) (d : Array α) (c : Array Value) : (putCells enc 0 d c).size = c.size := by simp [putCells]
theorem putCells_take {α : Type} [Inhabited α] (enc : α → Value) (d : List α) (c : Array Value) (h : d.length ≤ c.size) : (putCells enc 0 d.toArray c).toList.take d.length = d.map enc := by
  apply List.ext_getElem
  · simp [putCells]; omega
  · intro i h1 h2
    have hi : i < d.length := by simpa using h2
    simp [putCells, hi]
theorem heap_putRow_o {α : Type} [Inhabited α] (enc : α → Value) {w : World} {g k : Nat} (h : k ≠ g) (d : Array α) : (putRow enc w g 0 d).heap[k]? = w.heap[k]? := by
  unfold putRow mapBlock
  simp [Array.getElem?_modify, Ne.symm h]
theorem size_putRow_o {α : Type} [Inhabited α] (enc : α → Value) (w : World) (g : Nat) (d : Array α) : (putRow enc w g 0 d).heap.size = w.heap.size := by
  unfold putRow mapBlock
  simp
theorem grownBy_putRow {α : Type} [Inhabited α] (enc : α → Value) {w : World} {g : Nat} (hg : g < w.heap.size) (n : Nat) (d : Array α) (os : Array Obj) : w.grownBy (grow (putRow enc (Sort.ahead w n) g 0 d) os) (some g) := by
  refine ⟨rfl, rfl, rfl, ?_, fun k hk hne => ?_⟩
  · show _ ≤ ((putRow enc (Sort.ahead w n) g 0 d).heap ++ os).size
    rw [Array.size_append, size_putRow_o]
    exact Nat.le_add_right _ _
  · rw [heap_grow (by rw [size_putRow_o]; exact hk), heap_putRow_o enc (fun e => hne (by rw [e])) d]
    rfl
theorem flP_part : ∀ (D : List (Int × Int)) (j : Nat) (x : Int × Int), D[j]? = some x → ((flP D).drop (j * 2)).take 2 = encP x
  | [], j, x, h => by simp at h
  | y :: r, 0, x, h => by simp at h; subst h; rfl
  | y :: r, j + 1, x, h => by
    rw [show (j + 1) * 2 = 2 + j * 2 by omega, ← List.drop_drop]
    exact flP_part r j x (by simpa using h)
theorem R53_iff {w : World} {base : Nat} {v : Value} {l : List S53} : Kd.R k53 53 w base (fun _ => True) v l ↔ w.ownsRow base 53 2 v l.length (flP (l.map toP)) := by
  constructor
  · rintro ⟨_, inner, ho, h1, h2⟩
    have : inner = flP (l.map toP) := by
      have hlen : inner.length = l.length * 2 := h1
      apply List.ext_getElem?
      intro j
      rcases Nat.lt_or_ge j (l.length * 2) with hj | hj
      · have h3 := k53_openM (h2 (j / 2) l[j / 2] (List.getElem?_eq_getElem (by omega)))
        have h4 : ((inner.drop (j / 2 * 2)).take 2)[j % 2]? = (encP (toP l[j / 2]))[j % 2]? := by
          have : (inner.drop (j / 2 * k53.sz)).take k53.sz = (inner.drop (j / 2 * 2)).take 2 := rfl
          rw [this] at h3
          rw [h3]; rfl
        have h5 := flP_part (l.map toP) (j / 2) (toP l[j / 2]) (by simp; exact ⟨_, List.getElem?_eq_getElem (by omega), rfl⟩)
        rw [← h5] at h4
        rw [List.getElem?_take_of_lt (by omega), List.getElem?_take_of_lt (by omega), List.getElem?_drop, List.getElem?_drop, show j / 2 * 2 + j % 2 = j by omega] at h4
        exact h4
      · rw [List.getElem?_eq_none (by omega), List.getElem?_eq_none (by rw [flP_len]; simp; omega)]
    rw [← this]
    exact ho
  · intro ho
    refine ⟨fun _ _ => trivial, _, ho, ⟨by rw [flP_len]; simp; rfl, fun j p hp => ?_⟩⟩
    have h5 := flP_part (l.map toP) j (toP p) (by simp; exact ⟨p, hp, rfl⟩)
    show k53.M _ _ _ _ (((flP (l.map toP)).drop (j * 2)).take 2)
    rw [h5]
    exact k53_mkM _ _ _ p
theorem owns_form {w : World} {base : Nat} {v : Value} {l : List S53} (h : Kd.R k53 53 w base (fun _ => True) v l) :
    (v = .slice none 0 0 ∧ l = []) ∨ ∃ g cap cur, v = .slice (some ⟨g, 0, none⟩) l.length cap ∧ base ≤ g ∧ w.heap[g]? = some (.cells cur 53 (0, 0)) ∧ l.length ≤ cap ∧ cap ≤ maxLen ∧ cur.size = cap * 2 ∧ cur.toList.take (l.length * 2) = flP (l.map toP) := by
  obtain ⟨_, h2⟩ := R53_iff.1 h
  rcases h2 with ⟨rfl, h0⟩ | ⟨g, cap, cur, rfl, h1, h2, h3, h4, h5, h6⟩
  · exact .inl ⟨rfl, List.eq_nil_of_length_eq_zero h0⟩
  · exact .inr ⟨g, cap, cur, rfl, h1, h2, h3, h4, h5, h6⟩
theorem holds_of_block {w : World} {g cap : Nat} {cur : Array Value} {l : List S53} (hg : w.heap[g]? = some (.cells cur 53 (0, 0))) (hc : l.length ≤ cap) (hs : cur.size = cap * 2) (ht : cur.toList.take (l.length * 2) = flP (l.map toP)) :
    HoldsK encP 2 w g 0 (l.map toP).toArray := by
  intro j hj
  have hj2 : j < l.length * 2 := by simpa using hj
  rw [Nat.zero_add]
  have e1 : (flatK encP 2 (l.map toP).toArray)[j]! = cur[j]'(by omega) := by
    rw [← flP_flatK, getElem!_pos _ _ (by simpa [flP_len] using hj2)]
    have : (flP (l.map toP)).toArray[j]'(by simpa [flP_len] using hj2) = (cur.toList.take (l.length * 2))[j]'(by rw [ht, flP_len]; simpa using hj2) := by
      simp [ht]
    rw [this]
    simp
  constructor
  · simp only [World.cell?, hg]
    rw [e1]
    simp
  · simp only [World.frozen?, hg]
    simp
end Go.Proofs.YtfgbkklhjocmjaaDoor.Xq
namespace Go.Proofs.YtfgbkklhjocmjaaDoor.Xq
open Go.RowKit Go.Lib Go.Sort Go.Shelf Go.Proofs.YtfgbkklhjocmjaaDoorW.PrintWords Go.Proofs.YtfgbkklhjocmjaaDoorW.PrintLast Go.Proofs.YtfgbkklhjocmjaaDoor.Gv
def sortE (l : List S53) : List S53 := (srtP (l.map toP).toArray).toList.map ofP
theorem sortE_len (l : List S53) : (sortE l).length = l.length := by simp [sortE, srtP_size]
theorem ins_nil (w : World) (g : Value) : Calls Tryd.prog 100 #[.slice none 0 0, .int .i64 0, .int .i64 0, g] w fun e w' => e = .returned (.tuple #[]) ∧ w = w' := by
  go_enter Tryd.func100, Tryd.ntmps100
  go_wp2
  go_loop [8] (fun i => i = .int .i64 1) (fun _ => 0)
  case atStart => rfl
  case round =>
    subst hrel
    go_wp2
    go_end0
    exact ⟨rfl, rfl⟩
theorem pdq_nil (w : World) (k : Int) (g : Value) : Calls Tryd.prog 89 #[.slice none 0 0, .int .i64 0, .int .i64 0, .int .i64 k, g] w fun e w' => e = .returned (.tuple #[]) ∧ w = w' := by
  go_enter Tryd.func89, Tryd.ntmps89
  go_wp2
  go_loop [1, 2] (fun a b => a = .int .i64 0 ∧ b = .int .i64 0) (fun _ _ => 0)
  case atStart => exact ⟨rfl, rfl⟩
  case round =>
    obtain ⟨rfl, rfl⟩ := hrel
    go_wp2_with (go_at_call 100; refine (ins_nil _ _).mono ?_; rintro e w' ⟨rfl, rfl⟩)
    refine bodyPost_ret (results_none rfl _ _ _) rfl ?_
    exact ⟨rfl, rfl⟩
theorem sort_nil (w : World) : Calls Tryd.prog 67 #[.slice none 0 0, .func (.func 68) #[] #[]] w fun e w' => e = .returned (.tuple #[]) ∧ w = w' := by
  have hl : ∀ w, Calls Tryd.prog 90 #[.int .u64 0] w fun e w' => e = .returned (.int .i64 (Lib.bitLen 0 : Nat)) ∧ w' = w := by
    intro w
    have h := Any.bits_Len Tryd.bitsLen (0 : Int) w (by omega) (by omega)
    exact h
  go_enter Tryd.func67, Tryd.ntmps67
  go_wp2_with (first | (go_at_call 90; refine (hl _).mono ?_; rintro e w' ⟨rfl, rfl⟩) | (go_at_call 89; refine (pdq_nil _ _ _).mono ?_; rintro e w' ⟨rfl, rfl⟩))
  go_end0
  exact ⟨rfl, rfl⟩
theorem putRow_own {w : World} {base g cap : Nat} {cur : Array Value} {l : List S53} (d : List (Int × Int)) (hb : base ≤ g) (hg : w.heap[g]? = some (.cells cur 53 (0, 0))) (hdl : d.length = l.length) (hc : l.length ≤ cap) (hm : cap ≤ maxLen) (hs : cur.size = cap * 2) (n : Nat) (os : Array Obj) (m : Nat) (hml : m ≤ d.length) :
    Kd.R k53 53 (sortWorldK encP 2 w g 0 n d.toArray os) base (fun _ => True) (.slice (some ⟨g, 0, none⟩) m cap) ((d.take m).map ofP) ∧ w.grownBy (sortWorldK encP 2 w g 0 n d.toArray os) (some g) := by
  have hlt : g < w.heap.size := (Array.getElem?_eq_some_iff.1 hg).1
  have hb2 : (sortWorldK encP 2 w g 0 n d.toArray os).heap[g]? = some (.cells (putCells id 0 (flatK encP 2 d.toArray) cur) 53 (0, 0)) := by
    unfold sortWorldK putRowK
    rw [heap_grow (by rw [size_putRow_o]; exact hlt)]
    exact heap_putRow_pre id (w := Sort.ahead w n) hg _
  refine ⟨R53_iff.2 ⟨by rw [flP_len]; simp [hml], .inr ⟨g, cap, _, by simp [hml], hb, hb2, by simp; omega, hm, by rw [putCells_size]; exact hs, ?_⟩⟩, grownBy_putRow id hlt n _ os⟩
  have h1 := putCells_take id (flP d) cur (by rw [flP_len]; omega)
  rw [flP_flatK] at h1
  have e1 : ((d.take m).map ofP).length * 2 ≤ (flP d).length := by rw [flP_len]; simp; omega
  have e2 := congrArg (List.take (((d.take m).map ofP).length * 2)) h1
  rw [List.take_take, Nat.min_eq_left e1] at e2
  rw [e2, List.map_id, List.map_map, show (toP ∘ ofP) = id from rfl, List.map_id]
  have : ((d.take m).map ofP).length = m := by simp [hml]
  rw [this]
  clear h1 e1 e2 hb2 hdl hml
  induction d generalizing m with
  | nil => simp [flP]
  | cons y r ih =>
    cases m with
    | zero => simp [flP]
    | succ m =>
      rw [show (m + 1) * 2 = 2 + m * 2 by omega]
      have := ih m (by simp at this ⊢; omega)
      simp only [flP, List.flatMap_cons, List.take_succ_cons] at this ⊢
      rw [List.take_add, ← this]
      rfl
theorem sortE_calls (v : Value) (l : List S53) (base : Nat) (w : World) (h : Kd.R k53 53 w base (fun _ => True) v l) (hsz : l.length < 4611686018427387904) :
    Calls Tryd.prog 67 #[v, .func (.func 68) #[] #[]] w fun e w' => e = .returned (.tuple #[]) ∧ Kd.R k53 53 w' base (fun _ => True) v (sortE l) ∧ w.grownBy w' v.ownBlock := by
  rcases owns_form h with ⟨rfl, rfl⟩ | ⟨g, cap, cur, rfl, h1, h2, h3, h4, h5, h6⟩
  · exact (sort_nil w).mono fun e w' ⟨he, hw⟩ => by subst hw; exact ⟨he, by rw [show sortE [] = [] from List.eq_nil_of_length_eq_zero (sortE_len [])]; exact Kd.R_nil _ _ _ _ _, ⟨rfl, rfl, rfl, Nat.le_refl _, fun _ _ _ => rfl⟩⟩
  · have hs := sortFunc_calls g 0 cap (l.map toP).toArray w (holds_of_block h2 h3 h5 h6) (Array.getElem?_eq_some_iff.1 h2).1 (by simpa using hsz)
    have e : (l.map toP).toArray.size = l.length := by simp
    rw [e] at hs
    refine hs.mono ?_
    rintro e w' ⟨rfl, n, os, rfl⟩
    have hl : (srtP (l.map toP).toArray).toList.length = l.length := by simp [srtP_size]
    have z := putRow_own (srtP (l.map toP).toArray).toList h1 h2 hl h3 h4 h5 n os l.length (by omega)
    rw [Array.toArray_toList, List.take_of_length_le (by omega)] at z
    exact ⟨rfl, z.1, z.2⟩
def compactE (l : List S53) : List S53 := (Lib.compactUpTo (l.map toP).toArray l.length).map ofP
theorem compact_nil (w : World) : Calls Tryd.prog 69 #[.slice none 0 0] w fun e w' => e = .returned (.slice none 0 0) ∧ w = w' := by
  go_enter Tryd.func69, Tryd.ntmps69
  go_wp2
  go_ret
  exact ⟨rfl, rfl⟩
theorem compactE_calls (v : Value) (l : List S53) (base : Nat) (w : World) (h : Kd.R k53 53 w base (fun _ => True) v l) (hsz : l.length ≤ 4611686018427387904) :
    Calls Tryd.prog 69 #[v] w fun e w' => ∃ v', e = .returned v' ∧ Kd.R k53 53 w' base (fun _ => True) v' (compactE l) ∧ w.grownBy w' v.ownBlock := by
  rcases owns_form h with ⟨rfl, rfl⟩ | ⟨g, cap, cur, rfl, h1, h2, h3, h4, h5, h6⟩
  · exact (compact_nil w).mono fun e w' ⟨he, hw⟩ => by subst hw; exact ⟨_, he, Kd.R_nil _ _ _ _ _, ⟨rfl, rfl, rfl, Nat.le_refl _, fun _ _ _ => rfl⟩⟩
  · have hs := compact_calls g 0 cap (l.map toP).toArray w (holds_of_block h2 h3 h5 h6) (by simpa using h3) (by simpa using hsz)
    have e : (l.map toP).toArray.size = l.length := by simp
    rw [e] at hs
    have hle : (Lib.compactUpTo (l.map toP).toArray l.length).length ≤ l.length := by
      unfold Lib.compactUpTo
      rw [List.length_map]
      exact Nat.le_trans (List.length_filter_le _ _) (by simp)
    refine hs.mono ?_
    rintro e w' ⟨rfl, q, rfl⟩
    have hl : (Lib.compactUpTo (l.map toP).toArray l.length ++ List.replicate (l.length - (Lib.compactUpTo (l.map toP).toArray l.length).length) ((0 : Int), (0 : Int))).length = l.length := by simp; omega
    have z := putRow_own _ h1 h2 hl h3 h4 h5 q #[] (Lib.compactUpTo (l.map toP).toArray l.length).length (by simp)
    rw [List.take_left] at z
    unfold sortWorldK at z
    rw [grow_empty] at z
    exact ⟨_, rfl, z.1, z.2⟩
end Go.Proofs.YtfgbkklhjocmjaaDoor.Xq
namespace Go.Proofs.YtfgbkklhjocmjaaDoor.Xq
open Go.Lib Go.Sort Go.Proofs.YtfgbkklhjocmjaaDoor.Gv
def LtP (x y : Int × Int) : Prop := x.1 < y.1 ∨ (x.1 = y.1 ∧ x.2 < y.2)
theorem ltP_iff (x y : Int × Int) : ltP x y = true ↔ LtP x y := by simp [ltP, LtP]
theorem LtP.trans {x y z : Int × Int} (h : LtP x y) (k : LtP y z) : LtP x z := by unfold LtP at *; omega
theorem LtP.irrefl (x : Int × Int) : ¬ LtP x x := by unfold LtP; omega
theorem LtP.of_ne {x y : Int × Int} (h : ¬ LtP y x) (hne : x ≠ y) : LtP x y := by
  unfold LtP at *
  have : ¬ (x.1 = y.1 ∧ x.2 = y.2) := fun e => hne (Prod.ext e.1 e.2)
  omega
theorem sorted_ext : ∀ {l m : List (Int × Int)}, l.Pairwise LtP → m.Pairwise LtP → (∀ x, x ∈ l ↔ x ∈ m) → l = m
  | [], [], _, _, _ => rfl
  | [], y :: m, _, _, h => by have := (h y).2 List.mem_cons_self; simp at this
  | x :: l, [], _, _, h => by have := (h x).1 List.mem_cons_self; simp at this
  | x :: l, y :: m, hl, hm, h => by
    obtain ⟨h1, h2⟩ := List.pairwise_cons.1 hl
    obtain ⟨k1, k2⟩ := List.pairwise_cons.1 hm
    have e : x = y := by
      rcases List.mem_cons.1 ((h x).1 List.mem_cons_self) with e | e
      · exact e
      · rcases List.mem_cons.1 ((h y).2 List.mem_cons_self) with e' | e'
        · exact e'.symm
        · exact absurd ((k1 x e).trans (h1 y e')) (LtP.irrefl _)
    subst e
    rw [sorted_ext h2 k2 (fun z => ⟨fun hz => ?_, fun hz => ?_⟩)]
    · rcases List.mem_cons.1 ((h z).1 (List.mem_cons_of_mem _ hz)) with e | e
      · subst e; exact absurd (h1 z hz) (LtP.irrefl _)
      · exact e
    · rcases List.mem_cons.1 ((h z).2 (List.mem_cons_of_mem _ hz)) with e | e
      · subst e; exact absurd (k1 z hz) (LtP.irrefl _)
      · exact e
theorem srtP_spec (d : Array (Int × Int)) : (∀ i j, i < j → j < d.size → ¬ LtP (srtP d)[j]! (srtP d)[i]!) ∧ (∀ x, x ∈ (srtP d).toList ↔ x ∈ d.toList) := by
  obtain ⟨hp, hs⟩ := pdq_sorts (ltOf cmpP) swoP d 0 d.size (Lib.bitLen d.size) true true (Nat.zero_le _) (Nat.le_refl _) (Or.inl rfl)
  change PermIn 0 d.size d (srtP d) at hp
  change SortedIn (ltOf cmpP) 0 d.size (srtP d) at hs
  refine ⟨fun i j hij hj h => ?_, fun x => ?_⟩
  · have z := hs i j (Nat.zero_le _) hij hj
    rw [lt_cmpP] at z
    rw [(ltP_iff _ _).2 h] at z
    cases z
  · have z := hp.2.2
    rw [Array.extract_eq_self_of_le (Nat.le_refl _), Array.extract_eq_self_of_le (by rw [hp.1]; exact Nat.le_refl _)] at z
    exact z.mem_iff
theorem pairwise_range_map {d : Array (Int × Int)} {p : Nat → Bool} {n : Nat} (h : ∀ i j, i < j → j < n → p i = true → p j = true → LtP d[i]! d[j]!) : (((List.range n).filter p).map (d[·]!)).Pairwise LtP := by
  rw [List.pairwise_map]
  have hr : (List.range n).Pairwise (fun i j => i < j) := List.pairwise_lt_range
  have h2 := (hr.filter p)
  refine List.Pairwise.imp_of_mem ?_ h2
  intro i j hi hj hij
  obtain ⟨hi1, hi2⟩ := List.mem_filter.1 hi
  obtain ⟨hj1, hj2⟩ := List.mem_filter.1 hj
  exact h i j hij (List.mem_range.1 hj1) hi2 hj2
theorem sortDedup_sorted (l : List (Int × Int)) : (sortDedup l).Pairwise LtP := by
  unfold sortDedup compactUpTo
  obtain ⟨hs, _⟩ := srtP_spec l.toArray
  have hz := srtP_size l.toArray
  refine pairwise_range_map fun i j hij hj _ hk => ?_
  rw [hz] at hj
  have hne : (srtP l.toArray)[j]! ≠ (srtP l.toArray)[j - 1]! := by
    simp only [keeps, decide_eq_true_eq] at hk
    rcases hk with h | h
    · omega
    · exact h
  have h1 : LtP (srtP l.toArray)[j - 1]! (srtP l.toArray)[j]! := LtP.of_ne (hs (j - 1) j (by omega) hj) (Ne.symm hne)
  by_cases e : i = j - 1
  · rw [e]; exact h1
  · by_cases c : (srtP l.toArray)[i]! = (srtP l.toArray)[j - 1]!
    · rw [c]; exact h1
    · exact (LtP.of_ne (hs i (j - 1) (by omega) (by omega)) c).trans h1
theorem mem_sortDedup (l : List (Int × Int)) (x : Int × Int) : x ∈ sortDedup l ↔ x ∈ l := by
  unfold sortDedup compactUpTo
  obtain ⟨_, hm⟩ := srtP_spec l.toArray
  have hz := srtP_size l.toArray
  rw [show (x ∈ l) = (x ∈ l.toArray.toList) by simp, ← hm x]
  generalize srtP l.toArray = s at hz
  constructor
  · intro h
    obtain ⟨i, hi, rfl⟩ := List.mem_map.1 h
    have hi' := List.mem_range.1 (List.mem_filter.1 hi).1
    rw [getElem!_pos s i hi']
    exact Array.getElem_mem_toList hi'
  · intro h
    obtain ⟨i, hi, rfl⟩ := List.mem_iff_getElem.1 h
    have hi' : i < s.size := by simpa using hi
    rw [List.mem_map]
    clear hm hz
    have key : ∀ n i, i ≤ n → (hi' : i < s.size) → ∃ a, a ∈ (List.range s.size).filter (keeps s) ∧ s[a]! = s[i] := by
      intro n
      induction n with
      | zero =>
        intro i hn hi'
        have : i = 0 := by omega
        subst this
        exact ⟨0, List.mem_filter.2 ⟨List.mem_range.2 hi', by simp [keeps]⟩, getElem!_pos s 0 hi'⟩
      | succ n ih =>
        intro i hn hi'
        by_cases k : keeps s i = true
        · exact ⟨i, List.mem_filter.2 ⟨List.mem_range.2 hi', k⟩, getElem!_pos s i hi'⟩
        · simp only [keeps, decide_eq_true_eq, not_or, Classical.not_not] at k
          obtain ⟨a, ha, e⟩ := ih (i - 1) (by omega) (by omega)
          refine ⟨a, ha, e.trans ?_⟩
          have k2 := k.2
          rw [getElem!_pos s i hi', getElem!_pos s (i - 1) (by omega)] at k2
          exact k2.symm
    obtain ⟨a, ha, e⟩ := key i i (Nat.le_refl _) hi'
    exact ⟨a, ha, e⟩
theorem sortDedup_eq {l m : List (Int × Int)} (hm : m.Pairwise LtP) (h : ∀ x, x ∈ m ↔ x ∈ l) : sortDedup l = m :=
  sorted_ext (sortDedup_sorted l) hm (fun x => (mem_sortDedup l x).trans (h x).symm)
end Go.Proofs.YtfgbkklhjocmjaaDoor.Xq
namespace Go.Proofs.YtfgbkklhjocmjaaDoor.Xq
open Go.RowKit Go.Proofs.YtfgbkklhjocmjaaDoorW.PrintWords Go.Proofs.YtfgbkklhjocmjaaDoorW.PrintLast Go.Proofs.YtfgbkklhjocmjaaDoorW.PrintMore
attribute [local go_sem] max2_int min2_int max_two min_two max_three min_three max_four min_four
def graph_within.f (a0 : Int) (a1_0 : Int) (a1_1 : Int) : Option (Bool) := if a1_0 ≥ 0 then (if a1_0 < a0 then (if a1_1 ≥ 0 then (some (decide (a1_1 < a0))) else (some false)) else (some false)) else (some false)
set_option maxHeartbeats 8000000 in
set_option maxRecDepth 100000 in
theorem graph_within.calls (a0 : Int) (a1_0 : Int) (a1_1 : Int) (r : Bool) (w : World) (h : graph_within.f a0 a1_0 a1_1 = some r) :
  Calls Tryd.prog 65 #[.int .i64 a0,.agg #[.int .i64 a1_0,.int .i64 a1_1]] w fun e w' => e = .returned (.bool r) ∧ Below w.heap.size w w' := by
 have hu53 := Tryd.underlying53
 have HB := aM_ (Below.refl w.heap.size w)
 have H : (if a1_0 ≥ 0 then (if a1_0 < a0 then (if a1_1 ≥ 0 then (some (decide (a1_1 < a0))) else (some false)) else (some false)) else (some false)) = some r := h
 clear h
 by_cases c3 : a1_0 ≥ 0
 ·rw [if_pos c3] at H
  have c3b0 : decide (0 ≤ a1_0) = true := decide_eq_true c3
  clear c3
  by_cases c4 : a1_0 < a0
  ·rw [if_pos c4] at H
   have c4b0 : decide (a1_0 < a0) = true := decide_eq_true c4
   clear c4
   by_cases c5 : a1_1 ≥ 0
   ·rw [if_pos c5] at H
    have c5b0 : decide (0 ≤ a1_1) = true := decide_eq_true c5
    clear c5
    obtain rfl := Option.some.inj H
    go_enter Tryd.func65,Tryd.ntmps65
    go_wp2_with (first | ((with_reducible refine gate_dst (N := 3) rfl ?_); refine box_event ?hg (N := 3) ?hd (cs := #[.int .i64 a1_0,.int .i64 a1_1]) (t := 53) ?hr ?_; (case hd => rfl); (case hg => rfl); (case hr => first | (go_simp; done) | (go_simp; rfl)); intro gb101 hg w6 hbox hb; have n0_ := aM_ (below_step (by repeat (first | (with_reducible first | exact HB.out | apply bA_ | apply bB_ | apply bC_) | exact HB.out)) hb); have n1_ := aM_ (hbox); have n2_ := aM_ ((by rw [hg]; exact (below_size (by repeat (first | (with_reducible first | exact HB.out | apply bA_ | apply bB_ | apply bC_) | exact HB.out))) : w.heap.size ≤ gb101)); have n3_ := aM_ ((by rw [hg]; exact (below_size (by repeat (first | (with_reducible first | exact HB.out | apply bA_ | apply bB_ | apply bC_) | exact HB.out))) : w.heap.size ≤ gb101)); clear HB; have HB := n0_; have BK101 := n1_; have GW101 := n2_; have GE101 := n3_; clear n0_ n1_ n2_ n3_; clear hb hbox hg; have hcz7_0 : w6.cell? ⟨gb101,0,none⟩ = some (.int .i64 a1_0) := (blk_cell BK101.out 0).trans rfl; have hcz7_1 : w6.cell? ⟨gb101,1,none⟩ = some (.int .i64 a1_1) := (blk_cell BK101.out 1).trans rfl; have hfz7_0 := blk_frozen BK101.out 0; have hfz7_1 := blk_frozen BK101.out 1))
    go_ret
    exact ⟨by first | rfl | (simp [errW_none,errW_some] <;> rfl) | (simp [*,errW_none,errW_some] <;> rfl),by repeat (first | (with_reducible first | exact HB.out | apply bA_ | apply bB_ | apply bC_ | refine below_set ?_ GE101.out) | exact HB.out)⟩
   ·rw [if_neg c5] at H
    have c5b0 : decide (0 ≤ a1_1) = false := decide_eq_false c5
    clear c5
    obtain rfl := Option.some.inj H
    go_enter Tryd.func65,Tryd.ntmps65
    go_wp2_with (first | ((with_reducible refine gate_dst (N := 3) rfl ?_); refine box_event ?hg (N := 3) ?hd (cs := #[.int .i64 a1_0,.int .i64 a1_1]) (t := 53) ?hr ?_; (case hd => rfl); (case hg => rfl); (case hr => first | (go_simp; done) | (go_simp; rfl)); intro gb101 hg w8 hbox hb; have n0_ := aM_ (below_step (by repeat (first | (with_reducible first | exact HB.out | apply bA_ | apply bB_ | apply bC_) | exact HB.out)) hb); have n1_ := aM_ (hbox); have n2_ := aM_ ((by rw [hg]; exact (below_size (by repeat (first | (with_reducible first | exact HB.out | apply bA_ | apply bB_ | apply bC_) | exact HB.out))) : w.heap.size ≤ gb101)); have n3_ := aM_ ((by rw [hg]; exact (below_size (by repeat (first | (with_reducible first | exact HB.out | apply bA_ | apply bB_ | apply bC_) | exact HB.out))) : w.heap.size ≤ gb101)); clear HB; have HB := n0_; have BK101 := n1_; have GW101 := n2_; have GE101 := n3_; clear n0_ n1_ n2_ n3_; clear hb hbox hg; have hcz9_0 : w8.cell? ⟨gb101,0,none⟩ = some (.int .i64 a1_0) := (blk_cell BK101.out 0).trans rfl; have hcz9_1 : w8.cell? ⟨gb101,1,none⟩ = some (.int .i64 a1_1) := (blk_cell BK101.out 1).trans rfl; have hfz9_0 := blk_frozen BK101.out 0; have hfz9_1 := blk_frozen BK101.out 1))
    go_ret
    exact ⟨by first | rfl | (simp [errW_none,errW_some] <;> rfl) | (simp [*,errW_none,errW_some] <;> rfl),by repeat (first | (with_reducible first | exact HB.out | apply bA_ | apply bB_ | apply bC_ | refine below_set ?_ GE101.out) | exact HB.out)⟩
  ·rw [if_neg c4] at H
   have c4b0 : decide (a1_0 < a0) = false := decide_eq_false c4
   clear c4
   obtain rfl := Option.some.inj H
   go_enter Tryd.func65,Tryd.ntmps65
   go_wp2_with (first | ((with_reducible refine gate_dst (N := 3) rfl ?_); refine box_event ?hg (N := 3) ?hd (cs := #[.int .i64 a1_0,.int .i64 a1_1]) (t := 53) ?hr ?_; (case hd => rfl); (case hg => rfl); (case hr => first | (go_simp; done) | (go_simp; rfl)); intro gb101 hg w10 hbox hb; have n0_ := aM_ (below_step (by repeat (first | (with_reducible first | exact HB.out | apply bA_ | apply bB_ | apply bC_) | exact HB.out)) hb); have n1_ := aM_ (hbox); have n2_ := aM_ ((by rw [hg]; exact (below_size (by repeat (first | (with_reducible first | exact HB.out | apply bA_ | apply bB_ | apply bC_) | exact HB.out))) : w.heap.size ≤ gb101)); have n3_ := aM_ ((by rw [hg]; exact (below_size (by repeat (first | (with_reducible first | exact HB.out | apply bA_ | apply bB_ | apply bC_) | exact HB.out))) : w.heap.size ≤ gb101)); clear HB; have HB := n0_; have BK101 := n1_; have GW101 := n2_; have GE101 := n3_; clear n0_ n1_ n2_ n3_; clear hb hbox hg; have hcz11_0 : w10.cell? ⟨gb101,0,none⟩ = some (.int .i64 a1_0) := (blk_cell BK101.out 0).trans rfl; have hcz11_1 : w10.cell? ⟨gb101,1,none⟩ = some (.int .i64 a1_1) := (blk_cell BK101.out 1).trans rfl; have hfz11_0 := blk_frozen BK101.out 0; have hfz11_1 := blk_frozen BK101.out 1))
   go_ret
   exact ⟨by first | rfl | (simp [errW_none,errW_some] <;> rfl) | (simp [*,errW_none,errW_some] <;> rfl),by repeat (first | (with_reducible first | exact HB.out | apply bA_ | apply bB_ | apply bC_ | refine below_set ?_ GE101.out) | exact HB.out)⟩
 ·rw [if_neg c3] at H
  have c3b0 : decide (0 ≤ a1_0) = false := decide_eq_false c3
  clear c3
  obtain rfl := Option.some.inj H
  go_enter Tryd.func65,Tryd.ntmps65
  go_wp2_with (first | ((with_reducible refine gate_dst (N := 3) rfl ?_); refine box_event ?hg (N := 3) ?hd (cs := #[.int .i64 a1_0,.int .i64 a1_1]) (t := 53) ?hr ?_; (case hd => rfl); (case hg => rfl); (case hr => first | (go_simp; done) | (go_simp; rfl)); intro gb101 hg w12 hbox hb; have n0_ := aM_ (below_step (by repeat (first | (with_reducible first | exact HB.out | apply bA_ | apply bB_ | apply bC_) | exact HB.out)) hb); have n1_ := aM_ (hbox); have n2_ := aM_ ((by rw [hg]; exact (below_size (by repeat (first | (with_reducible first | exact HB.out | apply bA_ | apply bB_ | apply bC_) | exact HB.out))) : w.heap.size ≤ gb101)); have n3_ := aM_ ((by rw [hg]; exact (below_size (by repeat (first | (with_reducible first | exact HB.out | apply bA_ | apply bB_ | apply bC_) | exact HB.out))) : w.heap.size ≤ gb101)); clear HB; have HB := n0_; have BK101 := n1_; have GW101 := n2_; have GE101 := n3_; clear n0_ n1_ n2_ n3_; clear hb hbox hg; have hcz13_0 : w12.cell? ⟨gb101,0,none⟩ = some (.int .i64 a1_0) := (blk_cell BK101.out 0).trans rfl; have hcz13_1 : w12.cell? ⟨gb101,1,none⟩ = some (.int .i64 a1_1) := (blk_cell BK101.out 1).trans rfl; have hfz13_0 := blk_frozen BK101.out 0; have hfz13_1 := blk_frozen BK101.out 1))
  go_ret
  exact ⟨by first | rfl | (simp [errW_none,errW_some] <;> rfl) | (simp [*,errW_none,errW_some] <;> rfl),by repeat (first | (with_reducible first | exact HB.out | apply bA_ | apply bB_ | apply bC_ | refine below_set ?_ GE101.out) | exact HB.out)⟩
def cmp_Or_int.l0 : Nat → Int → List Int → Int → Int → Option (Int)
 | 0,_,_,_,_ => none
 | k + 1,x3,x6,x7,x8 => if x8 < x7 then (if 0 ≤ x8 then (if x8 < (x6.length : Int) then (if (rd x6 x8) = x3 then (cmp_Or_int.l0 k x3 x6 x7 (wrap64 (x8 + 1))) else (some (rd x6 x8))) else (none)) else (none)) else (some x3)
def cmp_Or_int.f (k : Nat) (l0 : List Int) : Option (Int) := cmp_Or_int.l0 k 0 l0 (l0.length : Int) 0
set_option maxHeartbeats 8000000 in
set_option maxRecDepth 100000 in
theorem cmp_Or_int.calls (k : Nat) (A0 : Option Addr) (c0 : Nat) (l0 : List Int) (r : Int) (w : World) (hr0 : Kd.C (Kd.int .i64) w A0 l0.length l0) (hc0 : l0.length ≤ c0) (h : cmp_Or_int.f k l0 = some r) :
  Calls Tryd.prog 91 #[.slice A0 l0.length c0] w fun e w' => e = .returned (.int .i64 r) ∧ Drawn0 w w' := by
 have HR0 := aM_ hr0
 have HC0 := aM_ hc0
 clear hr0 hc0
 have H : (cmp_Or_int.l0 k 0 l0 (l0.length : Int) 0) = some r := h
 clear h
 have H' := aM_ H
 clear H
 go_enter Tryd.func91,Tryd.ntmps91
 go_wp2
 go_loopg [8] k (fun kq v8 w' => ∃ (x8_1 : Int),v8 = .int .i64 x8_1 ∧ Aside0 (cmp_Or_int.l0 kq 0 l0 (l0.length : Int) x8_1 = some r) ∧ Aside0 (kq ≤ k) ∧ Drawn0 w w')
 case atStart => exact ⟨(0),(by first | rfl | (simp; done) | (simp [*]; done)),H',⟨Nat.le_refl _⟩,by repeat (first | exact Drawn0.refl _ | apply Drawn0.step)⟩
 case round =>
  clear H'
  obtain ⟨x8_1,rfl,HA,HK1,⟨m1,rfl⟩⟩ := hrel
  cases gk with
  | zero => exact absurd HA.out (by simp [cmp_Or_int.l0])
  | succ k1 =>
   have H := HA.out
   clear HA
   simp only [cmp_Or_int.l0] at H
   by_cases c2 : x8_1 < (l0.length : Int)
   ·rw [if_pos c2] at H
    have c2b0 : decide (x8_1 < (l0.length : Int)) = true := decide_eq_true c2
    clear c2
    by_cases c3 : 0 ≤ x8_1
    ·rw [if_pos c3] at H
     have c3b0 : decide (0 ≤ x8_1) = true := decide_eq_true c3
     clear c3
     by_cases c4 : x8_1 < (l0.length : Int)
     ·rw [if_pos c4] at H
      have c4b0 : decide (x8_1 < (l0.length : Int)) = true := decide_eq_true c4
      clear c4
      by_cases c5 : (rd l0 x8_1) = 0
      ·rw [if_pos c5] at H
       have c5b0 : ((rd l0 x8_1) == 0) = true := beq_iff_eq.mpr c5
       have c5b1 : ((rd l0 x8_1) != 0) = false := bne_eq_false_iff_eq.mpr c5
       clear c5
       have H' := aM_ H
       clear H
       have p102 : 0 ≤ (x8_1 : Int) := of_decide_eq_true (by assumption)
       have q102 : x8_1 < (l0.length : Int) := of_decide_eq_true (by assumption)
       obtain ⟨ad102,e102,hx102_0⟩ := Kd.at_int HR0.out x8_1 p102 q102
       cases e102
       replace p102 := eq_true p102
       replace q102 := eq_true q102
       go_wp2
       go_roundg k1
       case measure => have := HK1.out; omega
       case rel => exact ⟨(wrap64 (x8_1 + 1)),(by first | rfl | (simp; done) | (simp [*]; done)),H',⟨by have := HK1.out; omega⟩,by repeat (first | exact Drawn0.refl _ | apply Drawn0.step)⟩
      ·rw [if_neg c5] at H
       have c5b0 : ((rd l0 x8_1) == 0) = false := beq_eq_false_iff_ne.mpr c5
       have c5b1 : ((rd l0 x8_1) != 0) = true := bne_iff_ne.mpr c5
       obtain rfl := Option.some.inj H
       have p102 : 0 ≤ (x8_1 : Int) := of_decide_eq_true (by assumption)
       have q102 : x8_1 < (l0.length : Int) := of_decide_eq_true (by assumption)
       obtain ⟨ad102,e102,hx102_0⟩ := Kd.at_int HR0.out x8_1 p102 q102
       cases e102
       replace p102 := eq_true p102
       replace q102 := eq_true q102
       go_wp2
       go_ret
       exact ⟨by first | rfl | (simp; done) | (simp [*]; done),by repeat (first | exact Drawn0.refl _ | apply Drawn0.step)⟩
     ·rw [if_neg c4] at H
      exact absurd H (by simp)
    ·rw [if_neg c3] at H
     exact absurd H (by simp)
   ·rw [if_neg c2] at H
    have c2b0 : decide (x8_1 < (l0.length : Int)) = false := decide_eq_false c2
    clear c2
    obtain rfl := Option.some.inj H
    go_wp2
    go_ret
    exact ⟨by first | rfl | (simp; done) | (simp [*]; done),by repeat (first | exact Drawn0.refl _ | apply Drawn0.step)⟩
def cmp_isNaN_int.f (a0 : Int) : Option (Bool) := some (a0 != a0)
set_option maxHeartbeats 8000000 in
set_option maxRecDepth 100000 in
theorem cmp_isNaN_int.calls (a0 : Int) (r : Bool) (w : World) (h : cmp_isNaN_int.f a0 = some r) :
  Calls Tryd.prog 110 #[.int .i64 a0] w fun e w' => e = .returned (.bool r) ∧ Drawn0 w w' := by
 have H : (some (a0 != a0)) = some r := h
 clear h
 obtain rfl := Option.some.inj H
 go_enter Tryd.func110,Tryd.ntmps110
 go_wp2
 go_ret
 exact ⟨by first | rfl | (simp; done) | (simp [*]; done),by repeat (first | exact Drawn0.refl _ | apply Drawn0.step)⟩
def cmp_Compare_int.f (a0 : Int) (a1 : Int) : Option (Int) := (cmp_isNaN_int.f a0).bind fun t103 => ((cmp_isNaN_int.f a1).bind fun t104 => (if t103 = true then (if t104 = true then (some 0) else (some (-1))) else (if t104 = true then (some 1) else (if a0 < a1 then (some (-1)) else (if a0 > a1 then (some 1) else (some 0))))))
set_option maxHeartbeats 8000000 in
set_option maxRecDepth 100000 in
theorem cmp_Compare_int.calls (a0 : Int) (a1 : Int) (r : Int) (w : World) (h : cmp_Compare_int.f a0 a1 = some r) :
  Calls Tryd.prog 92 #[.int .i64 a0,.int .i64 a1] w fun e w' => e = .returned (.int .i64 r) ∧ Drawn0 w w' := by
 have H : ((cmp_isNaN_int.f a0).bind fun t103 => ((cmp_isNaN_int.f a1).bind fun t104 => (if t103 = true then (if t104 = true then (some 0) else (some (-1))) else (if t104 = true then (some 1) else (if a0 < a1 then (some (-1)) else (if a0 > a1 then (some 1) else (some 0))))))) = some r := h
 clear h
 replace H := Option.bind_eq_some_iff.mp H
 obtain ⟨t103,A30,H⟩ := H
 replace H : ((cmp_isNaN_int.f a1).bind fun t104 => (if t103 = true then (if t104 = true then (some 0) else (some (-1))) else (if t104 = true then (some 1) else (if a0 < a1 then (some (-1)) else (if a0 > a1 then (some 1) else (some 0)))))) = some r := H
 have A3 := aM_ A30
 clear A30
 replace H := Option.bind_eq_some_iff.mp H
 obtain ⟨t104,A40,H⟩ := H
 replace H : (if t103 = true then (if t104 = true then (some 0) else (some (-1))) else (if t104 = true then (some 1) else (if a0 < a1 then (some (-1)) else (if a0 > a1 then (some 1) else (some 0))))) = some r := H
 have A4 := aM_ A40
 clear A40
 by_cases c5 : t103 = true
 ·subst c5
  have H1 : (if t104 = true then (some 0) else (some (-1))) = some r := by rw [if_pos rfl] at H; exact H
  clear H
  have H := H1
  clear H1
  by_cases c6 : t104 = true
  ·subst c6
   have H1 : (some 0) = some r := by rw [if_pos rfl] at H; exact H
   clear H
   have H := H1
   clear H1
   obtain rfl := Option.some.inj H
   go_enter Tryd.func92,Tryd.ntmps92
   go_wp2_with (first | ((with_reducible refine gate_callee (f := 110) rfl ?_); refine goesL_ (some 8) rfl rfl Tryd.func110 (by kernel_rfl) rfl #[.int .i64 a0] rfl (by (try simp only [List.map_toArray,List.map_cons,List.map_nil]); first | done | rfl | (simp only [List.length_drop,List.length_take]; rfl)) ?_; (with_reducible refine (cmp_isNaN_int.calls a0 true _ A3.out).mono ?_); rintro e w' ⟨rfl,⟨nd,rfl⟩⟩; refine ⟨_,rfl,?_⟩) | ((with_reducible refine gate_callee (f := 110) rfl ?_); refine goesL_ (some 10) rfl rfl Tryd.func110 (by kernel_rfl) rfl #[.int .i64 a1] rfl (by (try simp only [List.map_toArray,List.map_cons,List.map_nil]); first | done | rfl | (simp only [List.length_drop,List.length_take]; rfl)) ?_; (with_reducible refine (cmp_isNaN_int.calls a1 true _ A4.out).mono ?_); rintro e w' ⟨rfl,⟨nd,rfl⟩⟩; refine ⟨_,rfl,?_⟩))
   go_ret
   exact ⟨by first | rfl | (simp; done) | (simp [*]; done),by repeat (first | exact Drawn0.refl _ | apply Drawn0.step)⟩
  ·replace c6 := Bool.eq_false_iff.mpr c6
   subst c6
   have H1 : (some (-1)) = some r := by rw [if_neg (show ¬ (false = true) by decide)] at H; exact H
   clear H
   have H := H1
   clear H1
   obtain rfl := Option.some.inj H
   go_enter Tryd.func92,Tryd.ntmps92
   go_wp2_with (first | ((with_reducible refine gate_callee (f := 110) rfl ?_); refine goesL_ (some 8) rfl rfl Tryd.func110 (by kernel_rfl) rfl #[.int .i64 a0] rfl (by (try simp only [List.map_toArray,List.map_cons,List.map_nil]); first | done | rfl | (simp only [List.length_drop,List.length_take]; rfl)) ?_; (with_reducible refine (cmp_isNaN_int.calls a0 true _ A3.out).mono ?_); rintro e w' ⟨rfl,⟨nd,rfl⟩⟩; refine ⟨_,rfl,?_⟩) | ((with_reducible refine gate_callee (f := 110) rfl ?_); refine goesL_ (some 10) rfl rfl Tryd.func110 (by kernel_rfl) rfl #[.int .i64 a1] rfl (by (try simp only [List.map_toArray,List.map_cons,List.map_nil]); first | done | rfl | (simp only [List.length_drop,List.length_take]; rfl)) ?_; (with_reducible refine (cmp_isNaN_int.calls a1 false _ A4.out).mono ?_); rintro e w' ⟨rfl,⟨nd,rfl⟩⟩; refine ⟨_,rfl,?_⟩))
   go_ret
   exact ⟨by first | rfl | (simp; done) | (simp [*]; done),by repeat (first | exact Drawn0.refl _ | apply Drawn0.step)⟩
 ·replace c5 := Bool.eq_false_iff.mpr c5
  subst c5
  have H1 : (if t104 = true then (some 1) else (if a0 < a1 then (some (-1)) else (if a0 > a1 then (some 1) else (some 0)))) = some r := by rw [if_neg (show ¬ (false = true) by decide)] at H; exact H
  clear H
  have H := H1
  clear H1
  by_cases c7 : t104 = true
  ·subst c7
   have H1 : (some 1) = some r := by rw [if_pos rfl] at H; exact H
   clear H
   have H := H1
   clear H1
   obtain rfl := Option.some.inj H
   go_enter Tryd.func92,Tryd.ntmps92
   go_wp2_with (first | ((with_reducible refine gate_callee (f := 110) rfl ?_); refine goesL_ (some 8) rfl rfl Tryd.func110 (by kernel_rfl) rfl #[.int .i64 a0] rfl (by (try simp only [List.map_toArray,List.map_cons,List.map_nil]); first | done | rfl | (simp only [List.length_drop,List.length_take]; rfl)) ?_; (with_reducible refine (cmp_isNaN_int.calls a0 false _ A3.out).mono ?_); rintro e w' ⟨rfl,⟨nd,rfl⟩⟩; refine ⟨_,rfl,?_⟩) | ((with_reducible refine gate_callee (f := 110) rfl ?_); refine goesL_ (some 10) rfl rfl Tryd.func110 (by kernel_rfl) rfl #[.int .i64 a1] rfl (by (try simp only [List.map_toArray,List.map_cons,List.map_nil]); first | done | rfl | (simp only [List.length_drop,List.length_take]; rfl)) ?_; (with_reducible refine (cmp_isNaN_int.calls a1 true _ A4.out).mono ?_); rintro e w' ⟨rfl,⟨nd,rfl⟩⟩; refine ⟨_,rfl,?_⟩))
   go_ret
   exact ⟨by first | rfl | (simp; done) | (simp [*]; done),by repeat (first | exact Drawn0.refl _ | apply Drawn0.step)⟩
  ·replace c7 := Bool.eq_false_iff.mpr c7
   subst c7
   have H1 : (if a0 < a1 then (some (-1)) else (if a0 > a1 then (some 1) else (some 0))) = some r := by rw [if_neg (show ¬ (false = true) by decide)] at H; exact H
   clear H
   have H := H1
   clear H1
   by_cases c8 : a0 < a1
   ·rw [if_pos c8] at H
    have c8b0 : decide (a0 < a1) = true := decide_eq_true c8
    clear c8
    obtain rfl := Option.some.inj H
    go_enter Tryd.func92,Tryd.ntmps92
    go_wp2_with (first | ((with_reducible refine gate_callee (f := 110) rfl ?_); refine goesL_ (some 8) rfl rfl Tryd.func110 (by kernel_rfl) rfl #[.int .i64 a0] rfl (by (try simp only [List.map_toArray,List.map_cons,List.map_nil]); first | done | rfl | (simp only [List.length_drop,List.length_take]; rfl)) ?_; (with_reducible refine (cmp_isNaN_int.calls a0 false _ A3.out).mono ?_); rintro e w' ⟨rfl,⟨nd,rfl⟩⟩; refine ⟨_,rfl,?_⟩) | ((with_reducible refine gate_callee (f := 110) rfl ?_); refine goesL_ (some 10) rfl rfl Tryd.func110 (by kernel_rfl) rfl #[.int .i64 a1] rfl (by (try simp only [List.map_toArray,List.map_cons,List.map_nil]); first | done | rfl | (simp only [List.length_drop,List.length_take]; rfl)) ?_; (with_reducible refine (cmp_isNaN_int.calls a1 false _ A4.out).mono ?_); rintro e w' ⟨rfl,⟨nd,rfl⟩⟩; refine ⟨_,rfl,?_⟩))
    go_ret
    exact ⟨by first | rfl | (simp; done) | (simp [*]; done),by repeat (first | exact Drawn0.refl _ | apply Drawn0.step)⟩
   ·rw [if_neg c8] at H
    have c8b0 : decide (a0 < a1) = false := decide_eq_false c8
    clear c8
    by_cases c9 : a0 > a1
    ·rw [if_pos c9] at H
     have c9b0 : decide (a1 < a0) = true := decide_eq_true c9
     clear c9
     obtain rfl := Option.some.inj H
     go_enter Tryd.func92,Tryd.ntmps92
     go_wp2_with (first | ((with_reducible refine gate_callee (f := 110) rfl ?_); refine goesL_ (some 8) rfl rfl Tryd.func110 (by kernel_rfl) rfl #[.int .i64 a0] rfl (by (try simp only [List.map_toArray,List.map_cons,List.map_nil]); first | done | rfl | (simp only [List.length_drop,List.length_take]; rfl)) ?_; (with_reducible refine (cmp_isNaN_int.calls a0 false _ A3.out).mono ?_); rintro e w' ⟨rfl,⟨nd,rfl⟩⟩; refine ⟨_,rfl,?_⟩) | ((with_reducible refine gate_callee (f := 110) rfl ?_); refine goesL_ (some 10) rfl rfl Tryd.func110 (by kernel_rfl) rfl #[.int .i64 a1] rfl (by (try simp only [List.map_toArray,List.map_cons,List.map_nil]); first | done | rfl | (simp only [List.length_drop,List.length_take]; rfl)) ?_; (with_reducible refine (cmp_isNaN_int.calls a1 false _ A4.out).mono ?_); rintro e w' ⟨rfl,⟨nd,rfl⟩⟩; refine ⟨_,rfl,?_⟩))
     go_ret
     exact ⟨by first | rfl | (simp; done) | (simp [*]; done),by repeat (first | exact Drawn0.refl _ | apply Drawn0.step)⟩
    ·rw [if_neg c9] at H
     have c9b0 : decide (a1 < a0) = false := decide_eq_false c9
     clear c9
     obtain rfl := Option.some.inj H
     go_enter Tryd.func92,Tryd.ntmps92
     go_wp2_with (first | ((with_reducible refine gate_callee (f := 110) rfl ?_); refine goesL_ (some 8) rfl rfl Tryd.func110 (by kernel_rfl) rfl #[.int .i64 a0] rfl (by (try simp only [List.map_toArray,List.map_cons,List.map_nil]); first | done | rfl | (simp only [List.length_drop,List.length_take]; rfl)) ?_; (with_reducible refine (cmp_isNaN_int.calls a0 false _ A3.out).mono ?_); rintro e w' ⟨rfl,⟨nd,rfl⟩⟩; refine ⟨_,rfl,?_⟩) | ((with_reducible refine gate_callee (f := 110) rfl ?_); refine goesL_ (some 10) rfl rfl Tryd.func110 (by kernel_rfl) rfl #[.int .i64 a1] rfl (by (try simp only [List.map_toArray,List.map_cons,List.map_nil]); first | done | rfl | (simp only [List.length_drop,List.length_take]; rfl)) ?_; (with_reducible refine (cmp_isNaN_int.calls a1 false _ A4.out).mono ?_); rintro e w' ⟨rfl,⟨nd,rfl⟩⟩; refine ⟨_,rfl,?_⟩))
     go_ret
     exact ⟨by first | rfl | (simp; done) | (simp [*]; done),by repeat (first | exact Drawn0.refl _ | apply Drawn0.step)⟩
def graph_compare.f (k : Nat) (a0_0 : Int) (a0_1 : Int) (a1_0 : Int) (a1_1 : Int) : Option (Int) := (cmp_Compare_int.f a0_0 a1_0).bind fun t107 => ((cmp_Compare_int.f a0_1 a1_1).bind fun t108 => ((cmp_Or_int.f k (([t107,t108] : List Int))).bind fun t112 => (some t112)))
def graph_compare.T1 : Bool × List (List Nat × List Nat) := (true,[([],[]),([0],[0]),([],[]),([2],[2]),([1,3],[1,3]),([],[]),([5],[5]),([],[]),([7],[7]),([6,8,4],[6,8]),([4,9],[4,9]),([10,9],[10]),([11,11,0,1,2,3,4,5,6,7,8,9,10,11],[11])])
def graph_compare.B1 : List Nat := [0,1,0,4,15,0,32,0,128,511,1023,2047,4095]
theorem graph_compare.tab1 : rtab .any (opsOf Tryd.f68 1) = graph_compare.T1 := by kernel_rfl
theorem graph_compare.bits1 : waitsOk graph_compare.T1.2 graph_compare.B1 = true := by kernel_rfl
set_option maxHeartbeats 8000000 in
set_option maxRecDepth 100000 in
theorem graph_compare.calls (k : Nat) (a0_0 : Int) (a0_1 : Int) (a1_0 : Int) (a1_1 : Int) (r : Int) (w : World) (h : graph_compare.f k a0_0 a0_1 a1_0 a1_1 = some r) :
  Calls Tryd.prog 68 #[.agg #[.int .i64 a0_0,.int .i64 a0_1],.agg #[.int .i64 a1_0,.int .i64 a1_1]] w fun e w' => e = .returned (.int .i64 r) ∧ Below w.heap.size w w' := by
 have hu53 := Tryd.underlying53
 have HB := aM_ (Below.refl w.heap.size w)
 have H : ((cmp_Compare_int.f a0_0 a1_0).bind fun t107 => ((cmp_Compare_int.f a0_1 a1_1).bind fun t108 => ((cmp_Or_int.f k (([t107,t108] : List Int))).bind fun t112 => (some t112)))) = some r := h
 clear h
 replace H := Option.bind_eq_some_iff.mp H
 obtain ⟨t107,A30,H⟩ := H
 replace H : ((cmp_Compare_int.f a0_1 a1_1).bind fun t108 => ((cmp_Or_int.f k (([t107,t108] : List Int))).bind fun t112 => (some t112))) = some r := H
 have A3 := aM_ A30
 clear A30
 replace H := Option.bind_eq_some_iff.mp H
 obtain ⟨t108,A40,H⟩ := H
 replace H : ((cmp_Or_int.f k (([t107,t108] : List Int))).bind fun t112 => (some t112)) = some r := H
 have A4 := aM_ A40
 clear A40
 obtain ⟨y109,hy109⟩ : ∃ y_ : List Int,y_ = (([t107,t108] : List Int)) := ⟨_,rfl⟩
 replace H : ((cmp_Or_int.f k y109).bind fun t112 => (some t112)) = some r := by first | (rw [hy109]; with_reducible exact H) | (have H2_ := (Option.bind_some _ _).symm.trans H; rw [hy109]; with_reducible exact H2_) | (have H2_ := (Option.bind_some _ _).symm.trans H; with_reducible exact H2_) | with_reducible exact H | (rw [hy109]; exact H) | exact H
 have Ny109 := aM_ hy109
 clear hy109
 replace H := Option.bind_eq_some_iff.mp H
 obtain ⟨t112,A50,H⟩ := H
 replace H : (some t112) = some r := H
 have A5 := aM_ A50
 clear A50
 obtain rfl := Option.some.inj H
 go_enter Tryd.func68,Tryd.ntmps68
 try go_wp2_with (first | ((with_reducible refine gate_dst (N := 2) rfl ?_); refine box_event ?hg (N := 2) ?hd (cs := #[.int .i64 a0_0,.int .i64 a0_1]) (t := 53) ?hr ?_; (case hd => rfl); (case hg => rfl); (case hr => first | (go_simp; done) | (go_simp; rfl)); intro gb105 hg w6 hbox hb; have n0_ := aM_ (below_step (by repeat (first | (with_reducible first | exact HB.out | apply bA_ | apply bB_ | apply bC_) | exact HB.out)) hb); have n1_ := aM_ (hbox); have n2_ := aM_ ((by rw [hg]; exact (below_size (by repeat (first | (with_reducible first | exact HB.out | apply bA_ | apply bB_ | apply bC_) | exact HB.out))) : w.heap.size ≤ gb105)); have n3_ := aM_ ((by rw [hg]; exact (below_size (by repeat (first | (with_reducible first | exact HB.out | apply bA_ | apply bB_ | apply bC_) | exact HB.out))) : w.heap.size ≤ gb105)); clear HB; have HB := n0_; have BK105 := n1_; have GW105 := n2_; have GE105 := n3_; clear n0_ n1_ n2_ n3_; clear hb hbox hg) | ((with_reducible refine gate_dst (N := 3) rfl ?_); refine box_event ?hg (N := 3) ?hd (cs := #[.int .i64 a1_0,.int .i64 a1_1]) (t := 53) ?hr ?_; (case hd => rfl); (case hg => rfl); (case hr => first | (go_simp; done) | (go_simp; rfl)); intro gb106 hg w7 hbox hb; have n0_ := aM_ (blk_below (g := gb105) (o := .cells #[.int .i64 a0_0,.int .i64 a0_1] 53 (0,0)) (by (with_reducible repeat (first | refine blk_drewN ?_ _ | refine blk_drew ?_ | refine blk_alloc ?_ _)); exact BK105.out) hb); have n1_ := aM_ (below_step (by repeat (first | (with_reducible first | exact HB.out | apply bA_ | apply bB_ | apply bC_ | refine below_set ?_ GE105.out) | exact HB.out)) hb); have n2_ := aM_ (hbox); have n3_ := aM_ ((by rw [hg]; exact (below_size (by repeat (first | (with_reducible first | exact HB.out | apply bA_ | apply bB_ | apply bC_ | refine below_set ?_ GE105.out) | exact HB.out))) : w.heap.size ≤ gb106)); have n4_ := aM_ ((by rw [hg]; exact (below_size (by repeat (first | (with_reducible first | exact HB.out | apply bA_ | apply bB_ | apply bC_ | refine below_set ?_ GE105.out) | exact HB.out))) : w.heap.size ≤ gb106)); have n5_ := aM_ ((by rw [hg]; exact Nat.ne_of_lt (blk_lt (g := gb105) (o := .cells #[.int .i64 a0_0,.int .i64 a0_1] 53 (0,0)) (by (with_reducible repeat (first | refine blk_drewN ?_ _ | refine blk_drew ?_ | refine blk_alloc ?_ _)); exact BK105.out)) : gb105 ≠ gb106)); have n6_ := aM_ ((by rw [hg]; exact Nat.ne_of_gt (blk_lt (g := gb105) (o := .cells #[.int .i64 a0_0,.int .i64 a0_1] 53 (0,0)) (by (with_reducible repeat (first | refine blk_drewN ?_ _ | refine blk_drew ?_ | refine blk_alloc ?_ _)); exact BK105.out)) : gb106 ≠ gb105)); clear BK105; clear HB; have BK105 := n0_; have HB := n1_; have BK106 := n2_; have GW106 := n3_; have GE106 := n4_; have NB105_106 := n5_; have NB106_105 := n6_; clear n0_ n1_ n2_ n3_ n4_ n5_ n6_; clear hb hbox hg))
 have n0_ := aM_ (blk_drew BK105.out)
 have n1_ := aM_ (blk_drew BK106.out)
 have n2_ := aM_ (below_drew1 HB.out)
 clear BK105
 clear BK106
 clear HB
 have BK105 := n0_
 have BK106 := n1_
 have HB := n2_
 clear n0_ n1_ n2_
 refine start_ (n := 13) (S := fun w' => w'.cell? ⟨gb105,0,none⟩ = some (.int .i64 a0_0) ∧ w'.cell? ⟨gb105,1,none⟩ = some (.int .i64 a0_1) ∧ w'.cell? ⟨gb106,0,none⟩ = some (.int .i64 a1_0) ∧ w'.cell? ⟨gb106,1,none⟩ = some (.int .i64 a1_1)) (ds := []) #[f_,f_,f_,f_,f_,f_,f_,f_,f_,f_,f_,f_,f_] (by kernel_rfl) rfl rfl ⟨(blk_cell BK105.out 0).trans rfl,(blk_cell BK105.out 1).trans rfl,(blk_cell BK106.out 0).trans rfl,(blk_cell BK106.out 1).trans rfl⟩ (fun hHeld => ?_); refine with_tabW graph_compare.tab1 graph_compare.bits1 (fun HT_ HW_ => ?_)
 generalize w7.drew = w8 at BK105 BK106 HB hHeld ⊢
 refine pure_ (i := 0) (N := some 5) (v := ?_) (a' := ?_) #[t_,f_,f_,f_,f_,f_,f_,f_,f_,f_,f_,f_,f_] rfl rfl (any_of HT_.out (by kernel_rfl)) (fun _ _ _ h => h) (Or.inl ⟨by rfl,?_⟩) ?_ ?_
 rotate_left
 ·intro w'
  go_simp
  with_reducible rfl
 rotate_left
 ·simp only [Act.put,uA_,uB_,uC_,i64_w,i32_w]
  rfl
 refine pure_ (i := 2) (N := some 7) (v := ?_) (a' := ?_) #[t_,f_,t_,f_,f_,f_,f_,f_,f_,f_,f_,f_,f_] rfl rfl (any_of HT_.out (by kernel_rfl)) (fun _ _ _ h => h) (Or.inl ⟨by rfl,?_⟩) ?_ ?_
 rotate_left
 ·intro w'
  go_simp
  with_reducible rfl
 rotate_left
 ·simp only [Act.put,uA_,uB_,uC_,i64_w,i32_w]
  rfl
 refine pure_ (i := 5) (N := some 10) (v := ?_) (a' := ?_) #[t_,f_,t_,f_,f_,t_,f_,f_,f_,f_,f_,f_,f_] rfl rfl (any_of HT_.out (by kernel_rfl)) (fun _ _ _ h => h) (Or.inl ⟨by rfl,?_⟩) ?_ ?_
 rotate_left
 ·intro w'
  go_simp
  with_reducible rfl
 rotate_left
 ·simp only [Act.put,uA_,uB_,uC_,i64_w,i32_w]
  rfl
 refine pure_ (i := 7) (N := some 12) (v := ?_) (a' := ?_) #[t_,f_,t_,f_,f_,t_,f_,t_,f_,f_,f_,f_,f_] rfl rfl (any_of HT_.out (by kernel_rfl)) (fun _ _ _ h => h) (Or.inl ⟨by rfl,?_⟩) ?_ ?_
 rotate_left
 ·intro w'
  go_simp
  with_reducible rfl
 rotate_left
 ·simp only [Act.put,uA_,uB_,uC_,i64_w,i32_w]
  rfl
 refine take_ (i := 1) (N := some 6) (v := ?_) (a' := ?_) #[t_,t_,t_,f_,f_,t_,f_,t_,f_,f_,f_,f_,f_] rfl rfl (take_ofW HT_.out HW_.out (by kernel_rfl)) (fun _ _ _ h => h) (Or.inl ⟨by rfl,?_⟩) hHeld ?_ ?_
 rotate_left
 ·rintro w' ⟨s0,s1,s2,s3⟩
  go_simp
  with_reducible rfl
 rotate_left
 ·simp only [Act.put,uA_,uB_,uC_,i64_w,i32_w]
  rfl
 refine take_ (i := 3) (N := some 8) (v := ?_) (a' := ?_) #[t_,t_,t_,t_,f_,t_,f_,t_,f_,f_,f_,f_,f_] rfl rfl (take_ofW HT_.out HW_.out (by kernel_rfl)) (fun _ _ _ h => h) (Or.inl ⟨by rfl,?_⟩) hHeld ?_ ?_
 rotate_left
 ·rintro w' ⟨s0,s1,s2,s3⟩
  go_simp
  with_reducible rfl
 rotate_left
 ·simp only [Act.put,uA_,uB_,uC_,i64_w,i32_w]
  rfl
 refine take_ (i := 6) (N := some 11) (v := ?_) (a' := ?_) #[t_,t_,t_,t_,f_,t_,t_,t_,f_,f_,f_,f_,f_] rfl rfl (take_ofW HT_.out HW_.out (by kernel_rfl)) (fun _ _ _ h => h) (Or.inl ⟨by rfl,?_⟩) hHeld ?_ ?_
 rotate_left
 ·rintro w' ⟨s0,s1,s2,s3⟩
  go_simp
  with_reducible rfl
 rotate_left
 ·simp only [Act.put,uA_,uB_,uC_,i64_w,i32_w]
  rfl
 refine take_ (i := 8) (N := some 13) (v := ?_) (a' := ?_) #[t_,t_,t_,t_,f_,t_,t_,t_,t_,f_,f_,f_,f_] rfl rfl (take_ofW HT_.out HW_.out (by kernel_rfl)) (fun _ _ _ h => h) (Or.inl ⟨by rfl,?_⟩) hHeld ?_ ?_
 rotate_left
 ·rintro w' ⟨s0,s1,s2,s3⟩
  go_simp
  with_reducible rfl
 rotate_left
 ·simp only [Act.put,uA_,uB_,uC_,i64_w,i32_w]
  rfl
 refine one_ (i := 4) (N := some 9) #[t_,t_,t_,t_,t_,t_,t_,t_,t_,f_,f_,f_,f_] rfl rfl (one_of HT_.out (by kernel_rfl)) (by decide) (fun K hK => ?_)
 refine goes_ Tryd.func92 (by kernel_rfl) rfl #[.int .i64 a0_0,.int .i64 a1_0] (by rfl) rfl rfl (by (try simp only [List.map_toArray,List.map_cons,List.map_nil]); first | done | rfl | (simp only [List.length_drop,List.length_take]; rfl)) ?_
 with_reducible refine (cmp_Compare_int.calls a0_0 a1_0 t107 _ A3.out).mono ?_
 rintro e w' ⟨rfl,⟨nd,rfl⟩⟩
 refine ⟨_,rfl,?_⟩
 refine hK.out _ _ ⟨(blk_cell BK105.out 0).trans rfl,(blk_cell BK105.out 1).trans rfl,(blk_cell BK106.out 0).trans rfl,(blk_cell BK106.out 1).trans rfl⟩ (fun hHeld => ?_)
 clear hK K
 refine norm_ (a' := ?_) ?_ ?_
 rotate_left
 ·show Act.put _ (some 9) _ = _
  simp only [Act.put,uA_,uB_,uC_,i64_w,i32_w]
  rfl
 refine one_ (i := 9) (N := some 14) #[t_,t_,t_,t_,t_,t_,t_,t_,t_,t_,f_,f_,f_] rfl rfl (one_of HT_.out (by kernel_rfl)) (by decide) (fun K hK => ?_)
 refine goes_ Tryd.func92 (by kernel_rfl) rfl #[.int .i64 a0_1,.int .i64 a1_1] (by rfl) rfl rfl (by (try simp only [List.map_toArray,List.map_cons,List.map_nil]); first | done | rfl | (simp only [List.length_drop,List.length_take]; rfl)) ?_
 with_reducible refine (cmp_Compare_int.calls a0_1 a1_1 t108 _ A4.out).mono ?_
 rintro e w' ⟨rfl,⟨nd,rfl⟩⟩
 refine ⟨_,rfl,?_⟩
 refine hK.out _ _ ⟨(blk_cell BK105.out 0).trans rfl,(blk_cell BK105.out 1).trans rfl,(blk_cell BK106.out 0).trans rfl,(blk_cell BK106.out 1).trans rfl⟩ (fun hHeld => ?_)
 clear hK K
 refine norm_ (a' := ?_) ?_ ?_
 rotate_left
 ·show Act.put _ (some 14) _ = _
  simp only [Act.put,uA_,uB_,uC_,i64_w,i32_w]
  rfl
 refine one_ (i := 10) (N := some 15) #[t_,t_,t_,t_,t_,t_,t_,t_,t_,t_,t_,f_,f_] rfl rfl (one_of HT_.out (by kernel_rfl)) (by decide) (fun K hK => ?_)
 refine Kd.R_lit_step (Kd.int .i64) _ 3 ?hg (N := 15) ?hd (xs := ([t107,t108] : List Int)) (inner := [.int .i64 t107,.int .i64 t108]) (ok := fun _ => True) (okp := fun _ => True) ?hr ?hp (fun _ hk => hk) trivial (Below.refl _ _) (Nat.le_refl _) (by simp) ?_; (case hd => rfl); (case hg => rfl); (case hr => first | (go_simp; done) | (go_simp; rfl)); (case hp => exact (Reps.one (show Kd.M (Kd.int .i64) _ _ _ t107 [.int .i64 t107] from rfl) (Reps.one (show Kd.M (Kd.int .i64) _ _ _ t108 [.int .i64 t108] from rfl) (Reps.none _ _))))
 intro v110 w9 ho10 hb hg_ hnew_
 clear hg_ hnew_
 (first | rw [← Ny109.out] at ho10 | (simp only [Int.reduceToNat] at ho10; rw [← Ny109.out] at ho10))
 have n0_ := aM_ (Kd.R_lower ho10 (below_size (by repeat (first | (with_reducible first | exact HB.out | apply bA_ | apply bB_ | apply bC_ | refine below_set ?_ GE105.out | refine below_set ?_ GE106.out) | exact HB.out))))
 have n1_ := aM_ (blk_below (g := gb105) (o := .cells #[.int .i64 a0_0,.int .i64 a0_1] 53 (0,0)) (by (with_reducible repeat (first | refine blk_drewN ?_ _ | refine blk_drew ?_ | refine blk_alloc ?_ _)); exact BK105.out) hb)
 have n2_ := aM_ (blk_below (g := gb106) (o := .cells #[.int .i64 a1_0,.int .i64 a1_1] 53 (0,0)) (by (with_reducible repeat (first | refine blk_drewN ?_ _ | refine blk_drew ?_ | refine blk_alloc ?_ _)); exact BK106.out) hb)
 have n3_ := aM_ (below_step (by repeat (first | (with_reducible first | exact HB.out | apply bA_ | apply bB_ | apply bC_ | refine below_set ?_ GE105.out | refine below_set ?_ GE106.out) | exact HB.out)) hb)
 clear BK105
 clear BK106
 clear HB
 have HO111 := n0_
 have BK105 := n1_
 have BK106 := n2_
 have HB := n3_
 clear n0_ n1_ n2_ n3_
 clear hb ho10
 obtain ⟨Ao11,co11,eo11⟩ := Kd.R_slice HO111.out
 (first | subst eo11 | (injection eo11 with f1_ f2_ f3_; have f4_ := f1_.symm; have f5_ := f3_.symm; clear f1_ f2_ f3_; subst f4_; subst f5_))
 refine hK.out _ _ ⟨(blk_cell BK105.out 0).trans rfl,(blk_cell BK105.out 1).trans rfl,(blk_cell BK106.out 0).trans rfl,(blk_cell BK106.out 1).trans rfl⟩ (fun hHeld => ?_)
 clear hK K
 refine norm_ (a' := ?_) ?_ ?_
 rotate_left
 ·show Act.put _ (some 15) _ = _
  simp only [Act.put,uA_,uB_,uC_,i64_w,i32_w]
  rfl
 refine one_ (i := 11) (N := some 16) #[t_,t_,t_,t_,t_,t_,t_,t_,t_,t_,t_,t_,f_] rfl rfl (one_of HT_.out (by kernel_rfl)) (by decide) (fun K hK => ?_)
 refine goes_ Tryd.func91 (by kernel_rfl) rfl #[.slice Ao11 y109.length co11] (by rfl) rfl rfl (by (try simp only [List.map_toArray,List.map_cons,List.map_nil]); first | done | rfl | (simp only [List.length_drop,List.length_take]; rfl)) ?_
 with_reducible refine (cmp_Or_int.calls k _ _ y109 t112 _ ?side1 ?side2 A5.out).mono ?_
 (case side1 => repeat (first | exact (Kd.R_reads' HO111.out).2.2 | (with_reducible refine Kd.C_alloc ?_ _) | (with_reducible refine Kd.C_drewN ?_ _) | (with_reducible refine Kd.C_drew ?_)))
 (case side2 => exact (Kd.R_reads' HO111.out).2.1)
 rintro e w' ⟨rfl,⟨nd,rfl⟩⟩
 refine ⟨_,rfl,?_⟩
 refine hK.out _ _ ⟨(blk_cell BK105.out 0).trans rfl,(blk_cell BK105.out 1).trans rfl,(blk_cell BK106.out 0).trans rfl,(blk_cell BK106.out 1).trans rfl⟩ (fun hHeld => ?_)
 clear hK K
 refine norm_ (a' := ?_) ?_ ?_
 rotate_left
 ·show Act.put _ (some 16) _ = _
  simp only [Act.put,uA_,uB_,uC_,i64_w,i32_w]
  rfl
 refine pure_ (i := 12) (N := some 4) (v := ?_) (a' := ?_) #[t_,t_,t_,t_,t_,t_,t_,t_,t_,t_,t_,t_,t_] rfl rfl (any_of HT_.out (by kernel_rfl)) (fun _ _ _ h => h) (Or.inl ⟨by rfl,?_⟩) ?_ ?_
 rotate_left
 ·intro w'
  go_simp
  with_reducible rfl
 rotate_left
 ·simp only [Act.put,uA_,uB_,uC_,i64_w,i32_w]
  rfl
 refine done_ (done_of HT_.out (by kernel_rfl)) ?_
 try go_wp2
 go_ret
 exact ⟨by first | rfl | (simp [errW_none,errW_some] <;> rfl) | (simp [*,errW_none,errW_some] <;> rfl),by repeat (first | (with_reducible first | exact HB.out | apply bA_ | apply bB_ | apply bC_ | refine below_set ?_ GE105.out | refine below_set ?_ GE106.out) | exact HB.out)⟩
end Go.Proofs.YtfgbkklhjocmjaaDoor.Xq
namespace Go.Proofs.YtfgbkklhjocmjaaDoor.Xq
open Go.RowKit Go.Lib Go.Sort Go.Proofs.YtfgbkklhjocmjaaDoorW.PrintWords Go.Proofs.YtfgbkklhjocmjaaDoorW.PrintLast Go.Proofs.YtfgbkklhjocmjaaDoor.Gv
theorem rd_at' {l : List S53} {a : Nat} (h : a < l.length) : rd_T53 l (a : Int) = l[a] := by simp [rd_T53, h]
theorem gvInfo53 : (Tryd.prog.info? 53).map (fun i => (i.zero, i.size, i.bytes)) = some (some (.agg #[(.int .i64 0), (.int .i64 0)]), 2, 16) := by kernel_rfl
set_option maxRecDepth 100000 in
set_option maxHeartbeats 1000000 in
theorem clone_calls (A : Option Addr) (c : Nat) (l : List S53) (w : World) (hC : Kd.C k53 w A l.length l) (hl : l.length ≤ 4398046511104) :
    Calls Tryd.prog 66 #[.slice A l.length c] w fun e w' => ∃ v, e = .returned v ∧ Kd.R k53 53 w' w.heap.size (fun _ => True) v l ∧ Below w.heap.size w w' := by
  have R0 := As2.mk hC
  cases A with
  | none =>
    have e : l = [] := by
      rcases Nat.eq_zero_or_pos l.length with h | h
      · exact List.eq_nil_of_length_eq_zero h
      · obtain ⟨ad, he, _⟩ := hC.2.2 h
        cases he
    subst e
    clear hC
    have q22 : ∀ (w : World) (a : Option Addr) (n c n' c' : Nat), (binOp .eql 22 (.slice a n c) (.slice none n' c')).run Tryd.prog w = .ok (.bool a.isNone) w := fun w a n c n' c' => Lib.run_eql_slice_nil w _ _ a n c n' c' Tryd.underlying22
    go_enter Tryd.func66, Tryd.ntmps66
    go_wp2_with fail
    go_ret
    exact ⟨_, rfl, Kd.R_nil _ _ _ _ _, Below.refl _ _⟩
  | some ad =>
    clear hC
    have q22 : ∀ (w : World) (a : Option Addr) (n c n' c' : Nat), (binOp .eql 22 (.slice a n c) (.slice none n' c')).run Tryd.prog w = .ok (.bool a.isNone) w := fun w a n c n' c' => Lib.run_eql_slice_nil w _ _ a n c n' c' Tryd.underlying22
    have hE : As2 (Kd.R k53 53 (w.alloc (.cells #[] 53)) w.heap.size (fun _ => True) (.slice (some ⟨w.heap.size, 0, none⟩) 0 0) []) := ⟨R53_iff.2 ⟨rfl, .inr ⟨w.heap.size, 0, #[], rfl, Nat.le_refl _, heap_alloc_new w _, Nat.le_refl _, by unfold maxLen; omega, rfl, rfl⟩⟩⟩
    have hB : As2 (Below w.heap.size w (w.alloc (.cells #[] 53))) := ⟨(Below.refl _ _).alloc (Nat.le_refl _) _⟩
    go_enter Tryd.func66, Tryd.ntmps66
    go_wp2_with (at_builtin; go_loud (refine Kd.R_append_rows k53 (Rr := k53.K w) (w0 := w) w.heap.size rfl (.tmp 5) (.tmp 6) 22 53 (.agg #[(.int .i64 0), (.int .i64 0)]) 16 rfl Tryd.underlying22 gvInfo53 rfl (by decide) (by omega) (.slice (some ⟨w.heap.size, 0, none⟩) 0 0) [] l (some ad) l.length c (fun _ => True) (fun _ => False) rfl rfl ?aO ?aR ?aK (fun _ hk => hk.elim) (fun _ _ => trivial) ?aB ?aS ?aL ?_); (case aO => go_loud (exact hE.out)); (case aR => go_loud (exact Kd.C_below R0.out hB.out)); (case aK => go_loud (intro x cs hk; obtain rfl := k53_open hk; exact k53_mkM _ _ _ x)); (case aB => go_loud (exact hB.out)); (case aS => go_loud (exact hB.out.size)); (case aL => go_loud ((try simp only [List.length_nil]); omega)); intro v1 w3 ho hb hg hat; have F9 := As2.mk ho; have FB := As2.mk hb; clear ho hb hg hat)
    go_ret
    exact ⟨_, rfl, by simpa using F9.out, FB.out⟩
def withinB (n : Int) (x : S53) : Bool := decide (0 ≤ x.f0) && decide (x.f0 < n) && decide (0 ≤ x.f1) && decide (x.f1 < n)
theorem within_f (n : Int) (x : S53) : graph_within.f n x.f0 x.f1 = some (withinB n x) := by
  unfold graph_within.f withinB
  by_cases h1 : x.f0 ≥ 0
  · by_cases h2 : x.f0 < n
    · by_cases h3 : x.f1 ≥ 0
      · simp [h1, h2, h3]
      · simp [h1, h2, h3]
    · simp [h1, h2]
  · simp [h1]
def dedupE (l : List S53) : List S53 := (sortDedup (l.map toP)).map ofP
theorem compact_sort (l : List S53) : compactE (sortE l) = dedupE l := by
  unfold compactE sortE dedupE sortDedup
  have e : (((srtP (l.map toP).toArray).toList.map ofP).map toP) = (srtP (l.map toP).toArray).toList := by simp [Function.comp_def, toP, ofP]
  rw [e]
  simp
def graph_Make.f (a0 : Int) (l1 : List S53) : Option (Int × List S53 × Int) :=
  if a0 < 0 then some (0, [], 4) else if a0 > 8192 then some (0, [], 3) else if l1.all (withinB a0) = false then some (0, [], 4) else
  if l1.length ≤ 4398046511104 then (if (dedupE l1).length > 32768 then some (0, [], 3) else some (a0, dedupE l1, 0)) else none
set_option maxRecDepth 100000 in
set_option maxHeartbeats 2000000 in
theorem graph_Make.calls (a0 : Int) (A1 : Option Addr) (c1 : Nat) (l1 : List S53) (r1 : Int) (r2 : List S53) (r3 : Int) (w : World) (hr1 : Kd.C k53 w A1 l1.length l1) (hc1 : l1.length ≤ c1) (h : graph_Make.f a0 l1 = some (r1, r2, r3)) :
    Calls Tryd.prog 31 #[.int .i64 a0, .slice A1 l1.length c1] w fun e w' => ∃ v1_ : Value, e = .returned (.tuple #[.agg #[.int .i64 r1, v1_], .int .i64 r3]) ∧ Kd.R k53 53 w' w.heap.size (fun _ => True) v1_ r2 ∧ Below w.heap.size w w' := by
  have H := As2.mk h
  have R1 := As2.mk hr1
  have hcap := hr1.2.1
  clear h hr1
  unfold graph_Make.f at H
  by_cases h1 : a0 < 0
  · have HH := H.out
    rw [if_pos h1] at HH
    obtain ⟨rfl, rfl, rfl⟩ : 0 = r1 ∧ [] = r2 ∧ 4 = r3 := by simpa using HH
    clear H HH
    go_enter Tryd.func31, Tryd.ntmps31
    go_wp2_with ((with_reducible refine gate_dst (N := 4) rfl ?_); refine box_event ?hg (N := 4) ?hd (cs := #[.int .i64 0, .slice none 0 0]) (t := 24) ?hr ?_; (case hd => rfl); (case hg => rfl); (case hr => first | (go_simp; done) | (go_simp; rfl)); intro gb hg w3 hbox hb; have BK := As2.mk hbox; have BB := As2.mk hb; have GB := As2.mk (show w.heap.size ≤ gb by rw [hg]; exact Nat.le_refl _); clear hb hbox hg; have hcz0 : w3.cell? ⟨gb, 0, none⟩ = some (.int .i64 0) := (blk_cell BK.out 0).trans rfl; have hcz1 : w3.cell? ⟨gb, 1, none⟩ = some (.slice none 0 0) := (blk_cell BK.out 1).trans rfl; have hfz0 := blk_frozen BK.out 0; have hfz1 := blk_frozen BK.out 1)
    refine bodyPost_ret (results_ct rfl _ _ gb 24 _ (0, 0) _ rfl (blk_put (blk_put BK.out 0 _ rfl) 1 _ rfl) Tryd.underlying24 rfl (by kernel_rfl)) rfl ?_
    exact ⟨_, rfl, Kd.R_nil _ _ _ _ _, below_set (below_set BB.out GB.out) GB.out⟩
  by_cases h2 : a0 > 8192
  · have HH := H.out
    rw [if_neg h1, if_pos h2] at HH
    obtain ⟨rfl, rfl, rfl⟩ : 0 = r1 ∧ [] = r2 ∧ 3 = r3 := by simpa using HH
    clear H HH
    go_enter Tryd.func31, Tryd.ntmps31
    go_wp2_with ((with_reducible refine gate_dst (N := 4) rfl ?_); refine box_event ?hg (N := 4) ?hd (cs := #[.int .i64 0, .slice none 0 0]) (t := 24) ?hr ?_; (case hd => rfl); (case hg => rfl); (case hr => first | (go_simp; done) | (go_simp; rfl)); intro gb hg w3 hbox hb; have BK := As2.mk hbox; have BB := As2.mk hb; have GB := As2.mk (show w.heap.size ≤ gb by rw [hg]; exact Nat.le_refl _); clear hb hbox hg; have hcz0 : w3.cell? ⟨gb, 0, none⟩ = some (.int .i64 0) := (blk_cell BK.out 0).trans rfl; have hcz1 : w3.cell? ⟨gb, 1, none⟩ = some (.slice none 0 0) := (blk_cell BK.out 1).trans rfl; have hfz0 := blk_frozen BK.out 0; have hfz1 := blk_frozen BK.out 1)
    refine bodyPost_ret (results_ct rfl _ _ gb 24 _ (0, 0) _ rfl (blk_put (blk_put BK.out 0 _ rfl) 1 _ rfl) Tryd.underlying24 rfl (by kernel_rfl)) rfl ?_
    exact ⟨_, rfl, Kd.R_nil _ _ _ _ _, below_set (below_set BB.out GB.out) GB.out⟩
  have H1 := As2.mk (show (if l1.all (withinB a0) = false then some (0, [], 4) else if l1.length ≤ 4398046511104 then (if (dedupE l1).length > 32768 then some (0, [], 3) else some (a0, dedupE l1, 0)) else none) = some (r1, r2, r3) by have HH := H.out; rwa [if_neg h1, if_neg h2] at HH)
  clear H
  go_enter Tryd.func31, Tryd.ntmps31
  go_wp2_with ((with_reducible refine gate_dst (N := 4) rfl ?_); refine box_event ?hg (N := 4) ?hd (cs := #[.int .i64 0, .slice none 0 0]) (t := 24) ?hr ?_; (case hd => rfl); (case hg => rfl); (case hr => first | (go_simp; done) | (go_simp; rfl)); intro gb hg w3 hbox hb; have BK := As2.mk hbox; have BB := As2.mk hb; have GB := As2.mk (show w.heap.size ≤ gb by rw [hg]; exact Nat.le_refl _); clear hb hbox hg; have hcz0 : w3.cell? ⟨gb, 0, none⟩ = some (.int .i64 0) := (blk_cell BK.out 0).trans rfl; have hcz1 : w3.cell? ⟨gb, 1, none⟩ = some (.slice none 0 0) := (blk_cell BK.out 1).trans rfl; have hfz0 := blk_frozen BK.out 0; have hfz1 := blk_frozen BK.out 1)
  go_loopw [19] (fun i wr => ∃ j : Nat, i = .int .i64 j ∧ j ≤ l1.length ∧ As2 (∀ t : Nat, t < j → withinB a0 (rd_T53 l1 t) = true) ∧ As2 (Below w3.heap.size w3 wr)) (fun i _ => l1.length - (intOf i).toNat)
  case atStart => exact ⟨0, rfl, Nat.zero_le _, ⟨fun t ht => absurd ht (Nat.not_lt_zero _)⟩, ⟨Below.refl _ _⟩⟩
  case round =>
    clear hcz0 hcz1 hfz0 hfz1
    obtain ⟨j, rfl, hj, G, EB⟩ := hrel
    by_cases hlt : j < l1.length
    · obtain ⟨ad, rfl, d0, d1⟩ := at_T53 (Kd.C_below (Kd.C_below R1.out BB.out) EB.out) (j : Int) (by omega) (by omega)
      rw [Int.toNat_natCast] at d0 d1
      generalize hy : rd_T53 l1 (j : Int) = y at d0 d1
      have Y := As2.mk hy
      clear hy
      have bk := blk_below BK.out EB.out
      have hcz0 : wr.cell? ⟨gb, 0, none⟩ = some (.int .i64 0) := (blk_cell bk 0).trans rfl
      have hcz1 : wr.cell? ⟨gb, 1, none⟩ = some (.slice none 0 0) := (blk_cell bk 1).trans rfl
      have hfz0 := blk_frozen bk 0
      have hfz1 := blk_frozen bk 1
      have BKr := As2.mk bk
      clear bk
      by_cases hw : withinB a0 y = true
      · have W1 := As2.mk (show graph_within.f a0 y.f0 y.f1 = some true by rw [within_f, hw])
        have HW := As2.mk hw
        clear hw
        go_wp2_with (go_at_call 65; refine (graph_within.calls a0 y.f0 y.f1 true _ W1.out).mono ?_; rintro e w' ⟨rfl, hb⟩; have S2 := As2.mk hb; clear hb)
        exact ⟨⟨j + 1, by go_num, by omega, ⟨fun t ht => by
          by_cases e : t < j
          · exact G.out t e
          · obtain rfl : t = j := by omega
            rw [Y.out]; exact HW.out⟩, ⟨below_step (EB.out.alloc EB.out.size _) S2.out⟩⟩, by simp [intOf]; omega⟩
      · have W1 := As2.mk (show graph_within.f a0 y.f0 y.f1 = some false by rw [within_f]; simpa using hw)
        have HH := H1.out
        have hall : l1.all (withinB a0) = false := by
          rw [List.all_eq_false]
          exact ⟨l1[j], List.getElem_mem hlt, by rw [show l1[j] = y from (rd_at' hlt).symm.trans Y.out]; exact hw⟩
        rw [if_pos hall] at HH
        obtain ⟨rfl, rfl, rfl⟩ : 0 = r1 ∧ [] = r2 ∧ 4 = r3 := by simpa using HH
        clear H1 HH hall hw
        go_wp2_with (go_at_call 65; refine (graph_within.calls a0 y.f0 y.f1 false _ W1.out).mono ?_; rintro e w' ⟨rfl, hb⟩; have S2 := As2.mk (below_step (EB.out.alloc EB.out.size _) hb); clear hb; have bk' := blk_below BK.out S2.out; have hdz0 : w'.cell? ⟨gb, 0, none⟩ = some (.int .i64 0) := (blk_cell bk' 0).trans rfl; have hdz1 : w'.cell? ⟨gb, 1, none⟩ = some (.slice none 0 0) := (blk_cell bk' 1).trans rfl; have hez0 := blk_frozen bk' 0; have hez1 := blk_frozen bk' 1; have BK' := As2.mk bk'; clear bk')
        refine bodyPost_ret (results_ct rfl _ _ gb 24 _ (0, 0) _ rfl (blk_put (blk_put BK'.out 0 _ rfl) 1 _ rfl) Tryd.underlying24 rfl (by kernel_rfl)) rfl ?_
        exact ⟨_, rfl, Kd.R_nil _ _ _ _ _, below_set (below_set (below_step BB.out S2.out) GB.out) GB.out⟩
    · obtain rfl : j = l1.length := by omega
      have hall : ¬ l1.all (withinB a0) = false := by
        rw [Bool.not_eq_false, List.all_eq_true]
        intro x hx
        obtain ⟨t, ht, rfl⟩ := List.mem_iff_getElem.1 hx
        have := G.out t ht
        rwa [rd_at' ht] at this
      have H2 := As2.mk (show (if l1.length ≤ 4398046511104 then (if (dedupE l1).length > 32768 then some (0, [], 3) else some (a0, dedupE l1, 0)) else none) = some (r1, r2, r3) by have HH := H1.out; rwa [if_neg hall] at HH)
      clear H1 hall G
      by_cases hlen : l1.length ≤ 4398046511104
      case neg => have HH := H2.out; rw [if_neg hlen] at HH; cases HH
      have H3 := As2.mk (show (if (dedupE l1).length > 32768 then some (0, [], 3) else some (a0, dedupE l1, 0)) = some (r1, r2, r3) by have HH := H2.out; rwa [if_pos hlen] at HH)
      clear H2
      go_wp2_with (go_at_call 66; refine (clone_calls A1 c1 l1 _ (Kd.C_below (Kd.C_below R1.out BB.out) EB.out) hlen).mono ?_; rintro e w5 ⟨v5, rfl, g5, b5⟩; have G5 := As2.mk g5; have B5 := As2.mk (below_step EB.out b5); clear g5 b5)
      refine (sortE_calls v5 l1 _ w5 G5.out (by omega)).mono ?_
      rintro e w6 ⟨rfl, g6, gr6⟩
      have B6 := As2.mk (B5.out.grown gr6 B5.out.size (fun k hk => Nat.le_trans EB.out.size (Kd.R_base G5.out k hk)))
      have G6 := As2.mk g6
      clear g6 gr6 G5 B5
      go_wp2_with fail
      refine (compactE_calls v5 _ _ w6 G6.out (by rw [sortE_len]; omega)).mono ?_
      rintro e w7 ⟨v7, rfl, g7, gr7⟩
      rw [compact_sort] at g7
      have B7 := As2.mk (B6.out.grown gr7 B6.out.size (fun k hk => Nat.le_trans EB.out.size (Kd.R_base G6.out k hk)))
      obtain ⟨A7, c7, hv7, hc7, hC7⟩ := Kd.R_reads g7
      subst hv7
      have G7 := As2.mk g7
      clear g7 gr7 G6 B6 hC7
      have bk := blk_below BK.out B7.out
      have hcz0 : w7.cell? ⟨gb, 0, none⟩ = some (.int .i64 0) := (blk_cell bk 0).trans rfl
      have hcz1 : w7.cell? ⟨gb, 1, none⟩ = some (.slice none 0 0) := (blk_cell bk 1).trans rfl
      have hfz0 := blk_frozen bk 0
      have hfz1 := blk_frozen bk 1
      have BK7 := As2.mk bk
      clear bk
      by_cases hbig : (dedupE l1).length > 32768
      · have HH := H3.out
        rw [if_pos hbig] at HH
        obtain ⟨rfl, rfl, rfl⟩ : 0 = r1 ∧ [] = r2 ∧ 3 = r3 := by simpa using HH
        clear H3 HH
        generalize dedupE l1 = dl at G7 hbig hc7
        have hbig' : (32768 : Int) < (dl.length : Int) := by omega
        go_wp2_with fail
        refine bodyPost_ret (results_ct rfl _ _ gb 24 _ (0, 0) _ rfl (blk_put (blk_put BK7.out 0 _ rfl) 1 _ rfl) Tryd.underlying24 rfl (by kernel_rfl)) rfl ?_
        exact ⟨_, rfl, Kd.R_nil _ _ _ _ _, below_set (below_set (below_step BB.out B7.out) GB.out) GB.out⟩
      · have HH := H3.out
        rw [if_neg hbig] at HH
        obtain ⟨rfl, hr2, rfl⟩ : a0 = r1 ∧ dedupE l1 = r2 ∧ 0 = r3 := by simpa using HH
        clear H3 HH
        generalize dedupE l1 = dl at G7 hbig hc7 hr2
        subst hr2
        have hbig' : ¬ (32768 : Int) < (dl.length : Int) := by omega
        go_wp2_with fail
        refine bodyPost_ret (results_ct rfl _ _ gb 24 _ (0, 0) _ rfl (blk_put (blk_put BK7.out 0 _ rfl) 1 _ rfl) Tryd.underlying24 rfl (by kernel_rfl)) rfl ?_
        have hle : gb + 1 ≤ wr.heap.size := Nat.le_trans (blk_lt BK.out) EB.out.size
        have hrow : Kd.R k53 53 w7 w.heap.size (fun _ => True) (.slice A7 dl.length c7) dl := Kd.R_lower G7.out (Nat.le_trans BB.out.size EB.out.size)
        have hrow2 : Kd.R k53 53 w7 w.heap.size (fun k => k ≠ gb) (.slice A7 dl.length c7) dl := Kd.R_reok rfl hrow (fun k hk => by have := Kd.R_base G7.out k hk; omega)
        refine ⟨_, rfl, Kd.R_mono (Kd.R_far (p := ⟨gb, 1, none⟩) (Kd.R_far (p := ⟨gb, 0, none⟩) hrow2 (fun k hk => hk) _) (fun k hk => hk) _) (fun _ _ => trivial), below_set (below_set (below_step BB.out B7.out) GB.out) GB.out⟩
end Go.Proofs.YtfgbkklhjocmjaaDoor.Xq
namespace Go.Proofs.YtfgbkklhjocmjaaDoor.Xq
open Go.RowKit Go.ChangeShapes Go.WideShapes Go.Deep Go.Proofs.YtfgbkklhjocmjaaDoorW.PrintWords
def PairRow (w : World) (a : Option Addr) (len cap : Nat) (l : List S53) : Prop :=
  l.length = len ∧ len ≤ cap ∧ len * 16 ≤ 140737488351232 ∧ Kd.C k53 w a len l ∧ ∀ x ∈ l, (Lit.int .i64 x.f0).wf = true ∧ (Lit.int .i64 x.f1).wf = true
theorem open_pairs {H : Type} {enc : TypeId × Value → H} {W : World} {base : Nat} {spare : Nat → Bool} {held : Bool} {t : TypeId} {a : Option Addr} {len cap : Nat} {d : DataW H} {ps : List MemPlace} {ts : List TypeId} {ds : List (DataW H)} {j : Nat}
    (hsz : (DataW.weightsEach Tryd.prog ts ds).all (· ≤ reachBytes) = true) (ht : ts[j]? = some t) (hd : ds[j]? = some d) (hu : Tryd.prog.underlying t = some (.slice 53))
    (h : DataW.Trod enc Tryd.prog W base spare held t (.slice a len cap) d ps) : ∃ l, PairRow W a len cap l := by
  obtain ⟨fuel, hf⟩ := h
  rcases open_slice_pairs hu Tryd.underlying53 (by kernel_rfl) rfl rfl (by kernel_rfl) (by kernel_rfl) hf with ⟨hcs, _⟩ | ⟨ad, len', cap', m, n, V0, V1, D0, D1, P0, P1, hcs, _, hl, hm, hmm, hx, hc⟩
  · simp [Value.cells] at hcs
    obtain ⟨rfl, rfl, rfl⟩ := hcs
    exact ⟨[], rfl, Nat.le_refl _, by omega, Kd.C_nil _ _, by simp⟩
  · simp [Value.cells] at hcs
    obtain ⟨rfl, rfl, rfl⟩ := hcs
    have hlm : len ≤ m := by rw [hmm]; split <;> omega
    obtain ⟨hx, _⟩ := Prod.mk.inj hx
    subst hx
    have z := sized_slice hsz ht hd hu
    rw [show Tryd.prog.bytesOf 53 = 16 by kernel_rfl] at z
    have hlen : len * 16 ≤ 140737488351232 := by
      refine Nat.le_trans ?_ z
      refine Nat.mul_le_mul_right _ ?_
      simp
    have each : ∀ i, i < len → ∃ q : Int × Int, V0 i = .int .i64 q.1 ∧ V1 i = .int .i64 q.2 ∧ (Lit.int .i64 q.1).wf = true ∧ (Lit.int .i64 q.2).wf = true := by
      intro i hi
      obtain ⟨_, _, h0, h1⟩ := hc i (by omega)
      obtain ⟨x0, e0, _, w0⟩ := DataW.trod_int Tryd.underlying3 h0
      obtain ⟨x1, e1, _, w1⟩ := DataW.trod_int Tryd.underlying3 h1
      simp at e0 e1
      exact ⟨(x0, x1), e0, e1, w0, w1⟩
    obtain ⟨q, hq⟩ := choose_lt each
    refine ⟨(List.range len).map fun i => ofP (q i), by simp, hl, hlen, ⟨by simp, by omega, fun hn => ⟨ad, rfl, fun i p hp => ?_⟩⟩, ?_⟩
    · rw [List.getElem?_map, Option.map_eq_some_iff] at hp
      obtain ⟨i', hi', rfl⟩ := hp
      have hlt : i < len := by
        have := (List.getElem?_eq_some_iff.1 hi').1
        simpa using this
      have : i' = i := by rw [List.getElem?_range hlt] at hi'; exact (Option.some.inj hi').symm
      subst this
      obtain ⟨c0, c1, _, _⟩ := hc i' (by omega)
      obtain ⟨e0, e1, _, _⟩ := hq i' hlt
      refine ⟨[.int .i64 (ofP (q i')).f0, .int .i64 (ofP (q i')).f1], rfl, k53_mk _ _, fun t u hu => ?_⟩
      match t, hu with
      | 0, hu => simp at hu; subst hu; rw [← show V0 i' = .int .i64 (ofP (q i')).f0 from e0]; exact c0
      | 1, hu => simp at hu; subst hu; rw [← show V1 i' = .int .i64 (ofP (q i')).f1 from e1]; exact c1
      | t + 2, hu => simp at hu
    · intro x hx
      obtain ⟨i, hi, rfl⟩ := List.mem_map.1 hx
      obtain ⟨_, _, w0, w1⟩ := hq i (List.mem_range.1 hi)
      exact ⟨w0, w1⟩
end Go.Proofs.YtfgbkklhjocmjaaDoor.Xq
namespace Go.Proofs.YtfgbkklhjocmjaaDoor.Xq
open Go.RowKit Go.ChangeShapes Go.WideShapes Go.Deep Go.Proofs.YtfgbkklhjocmjaaDoorW.PrintWords
set_option maxRecDepth 100000 in
theorem open_graph {H : Type} {enc : TypeId × Value → H} {W : World} {r : Reach} {b0 base : Nat} {spare : Nat → Bool} {held : Bool} {v : Value} {d : DataW H} {ps : List MemPlace} {ts : List TypeId} {ds : List (DataW H)} {j : Nat}
    (hsz : (DataW.weightsEach Tryd.prog ts ds).all (· ≤ reachBytes) = true) (ht : ts[j]? = some 24) (hd : ds[j]? = some d) (hv : Value.okWide Tryd.prog W r b0 24 v)
    (h : DataW.Trod enc Tryd.prog W base spare held 24 v d ps) : ∃ n a len cap l, v = .agg #[.int .i64 n, .slice a len cap] ∧ PairRow W a len cap l := by
  obtain ⟨v0, v1, y0, y1, m, rfl, rfl, rfl, h0, h1⟩ := Joins.open_agg2 Tryd.underlying24 (by kernel_rfl) (by kernel_rfl) hv h
  obtain ⟨n, e0, _, w0⟩ := DataW.trod_int Tryd.underlying3 h0
  simp at e0
  subst e0
  have hs2 : (DataW.weightsEach Tryd.prog [3, 22] [y0.1, y1.1]).all (· ≤ reachBytes) = true := by
    rw [List.all_eq_true] at hsz ⊢
    intro q hq
    refine hsz q (DataW.weights_mem_each ht hd q ?_)
    simp only [DataW.weights, Tryd.underlying24]
    exact hq
  have form : ∃ a len cap, v1 = .slice a len cap := by
    rcases open_slice_pairs Tryd.underlying22 Tryd.underlying53 (by kernel_rfl) rfl rfl (by kernel_rfl) (by kernel_rfl) h1 with ⟨hcs, _⟩ | ⟨ad, len', cap', m, n, V0, V1, D0, D1, P0, P1, hcs, _⟩
    · simp at hcs; exact ⟨_, _, _, hcs⟩
    · simp at hcs; exact ⟨_, _, _, hcs⟩
  obtain ⟨a, len, cap, rfl⟩ := form
  obtain ⟨l, hl⟩ := open_pairs hs2 (j := 1) (t := 22) rfl rfl Tryd.underlying22 (W := W) (enc := enc) (base := base) (spare := spare) (held := held) (a := a) (len := len) (cap := cap) (d := y1.1) (ps := y1.2) ⟨m, h1⟩
  exact ⟨n, a, len, cap, l, rfl, hl⟩
end Go.Proofs.YtfgbkklhjocmjaaDoor.Xq
namespace Go.Proofs.YtfgbkklhjocmjaaDoor.Xq
open Go.RowKit Go.Shelf
def bits_TrailingZeros64.f (x : Int) : Option Int := if 0 ≤ x ∧ x < 18446744073709551616 then some (Lib.ctz 64 x.toNat : Nat) else none
set_option maxRecDepth 100000 in
set_option maxHeartbeats 1000000 in
theorem tz_core (x k idx : Nat) (w : World) (hx0 : ((x : Int) == 0) = false)
    (key : IntKind.u64.wrap (bits BinOp.and IntKind.u64 (x : Int) (IntKind.u64.wrap (-(x : Int))) * 285870213051353865) / 288230376151711744 = (idx : Int))
    (hi : idx < 64) (hk : k < 64) (hcell : w.cell? ⟨0, idx, none⟩ = some (.int .u8 k)) :
    Calls Tryd.prog 88 #[.int .u64 x] w fun e w' => e = .returned (.int .i64 k) ∧ w' = w := by
  go_enter Tryd.func88, Tryd.ntmps88
  go_wp2_with (simp only [key])
  go_ret
  exact ⟨rfl, rfl⟩
theorem tz_zero (w : World) : Calls Tryd.prog 88 #[.int .u64 0] w fun e w' => e = .returned (.int .i64 64) ∧ w' = w := by
  go_enter Tryd.func88, Tryd.ntmps88
  go_wp2
  go_ret
  exact ⟨rfl, rfl⟩
theorem bits_TrailingZeros64.calls (x : Int) (r : Int) (w : World) (hG_ : TabW w) (h : bits_TrailingZeros64.f x = some r) :
    Calls Tryd.prog 88 #[.int .u64 x] w fun e w' => e = .returned (.int .i64 r) ∧ Below w.heap.size w w' := by
  unfold bits_TrailingZeros64.f at h
  by_cases hx : 0 ≤ x ∧ x < 18446744073709551616
  case neg => rw [if_neg hx] at h; cases h
  rw [if_pos hx] at h
  obtain ⟨n, rfl⟩ := Int.eq_ofNat_of_zero_le hx.1
  have hn : n < 18446744073709551616 := by omega
  have hr := Option.some.inj h
  rw [Int.toNat_natCast] at hr
  subst hr
  by_cases h0 : n = 0
  · subst h0
    exact (tz_zero w).mono fun e w' ⟨he, hw⟩ => ⟨he, by rw [hw]; exact Below.refl _ _⟩
  · obtain ⟨hlow, hk⟩ := Lib.lowest_bit 64 n h0 hn
    obtain ⟨hi, htab⟩ := Lib.deBruijn64_at _ hk
    have hc := hG_ _ hi
    rw [htab] at hc
    exact (tz_core n _ _ w (by simp; omega) (tz64_key n _ hn h0 hlow) hi hk hc).mono fun e w' ⟨he, hw⟩ => ⟨he, by rw [hw]; exact Below.refl _ _⟩
end Go.Proofs.YtfgbkklhjocmjaaDoor.Xq
namespace Go.Proofs.YtfgbkklhjocmjaaDoor.Xq
open Go.RowKit Go.Proofs.YtfgbkklhjocmjaaDoorW.PrintWords Go.Proofs.YtfgbkklhjocmjaaDoorW.PrintLast Go.Proofs.YtfgbkklhjocmjaaDoorW.PrintMore
attribute [local go_sem] max2_int min2_int max_two min_two max_three min_three max_four min_four
def bits_OnesCount64.f (a0 : Int) : Option (Int) := some (Go.bits .and .i64 (wrap64 (IntKind.u64.wrap ((IntKind.u64.wrap ((IntKind.u64.wrap ((Go.bits .and .u64 (IntKind.u64.wrap (((IntKind.u64.wrap ((Go.bits .and .u64 ((IntKind.u64.wrap ((Go.bits .and .u64 (a0 / 2) 6148914691236517205) + (Go.bits .and .u64 a0 6148914691236517205))) / 4) 3689348814741910323) + (Go.bits .and .u64 (IntKind.u64.wrap ((Go.bits .and .u64 (a0 / 2) 6148914691236517205) + (Go.bits .and .u64 a0 6148914691236517205))) 3689348814741910323))) / 16) + (IntKind.u64.wrap ((Go.bits .and .u64 ((IntKind.u64.wrap ((Go.bits .and .u64 (a0 / 2) 6148914691236517205) + (Go.bits .and .u64 a0 6148914691236517205))) / 4) 3689348814741910323) + (Go.bits .and .u64 (IntKind.u64.wrap ((Go.bits .and .u64 (a0 / 2) 6148914691236517205) + (Go.bits .and .u64 a0 6148914691236517205))) 3689348814741910323))))) 1085102592571150095) + ((Go.bits .and .u64 (IntKind.u64.wrap (((IntKind.u64.wrap ((Go.bits .and .u64 ((IntKind.u64.wrap ((Go.bits .and .u64 (a0 / 2) 6148914691236517205) + (Go.bits .and .u64 a0 6148914691236517205))) / 4) 3689348814741910323) + (Go.bits .and .u64 (IntKind.u64.wrap ((Go.bits .and .u64 (a0 / 2) 6148914691236517205) + (Go.bits .and .u64 a0 6148914691236517205))) 3689348814741910323))) / 16) + (IntKind.u64.wrap ((Go.bits .and .u64 ((IntKind.u64.wrap ((Go.bits .and .u64 (a0 / 2) 6148914691236517205) + (Go.bits .and .u64 a0 6148914691236517205))) / 4) 3689348814741910323) + (Go.bits .and .u64 (IntKind.u64.wrap ((Go.bits .and .u64 (a0 / 2) 6148914691236517205) + (Go.bits .and .u64 a0 6148914691236517205))) 3689348814741910323))))) 1085102592571150095) / 256))) + ((IntKind.u64.wrap ((Go.bits .and .u64 (IntKind.u64.wrap (((IntKind.u64.wrap ((Go.bits .and .u64 ((IntKind.u64.wrap ((Go.bits .and .u64 (a0 / 2) 6148914691236517205) + (Go.bits .and .u64 a0 6148914691236517205))) / 4) 3689348814741910323) + (Go.bits .and .u64 (IntKind.u64.wrap ((Go.bits .and .u64 (a0 / 2) 6148914691236517205) + (Go.bits .and .u64 a0 6148914691236517205))) 3689348814741910323))) / 16) + (IntKind.u64.wrap ((Go.bits .and .u64 ((IntKind.u64.wrap ((Go.bits .and .u64 (a0 / 2) 6148914691236517205) + (Go.bits .and .u64 a0 6148914691236517205))) / 4) 3689348814741910323) + (Go.bits .and .u64 (IntKind.u64.wrap ((Go.bits .and .u64 (a0 / 2) 6148914691236517205) + (Go.bits .and .u64 a0 6148914691236517205))) 3689348814741910323))))) 1085102592571150095) + ((Go.bits .and .u64 (IntKind.u64.wrap (((IntKind.u64.wrap ((Go.bits .and .u64 ((IntKind.u64.wrap ((Go.bits .and .u64 (a0 / 2) 6148914691236517205) + (Go.bits .and .u64 a0 6148914691236517205))) / 4) 3689348814741910323) + (Go.bits .and .u64 (IntKind.u64.wrap ((Go.bits .and .u64 (a0 / 2) 6148914691236517205) + (Go.bits .and .u64 a0 6148914691236517205))) 3689348814741910323))) / 16) + (IntKind.u64.wrap ((Go.bits .and .u64 ((IntKind.u64.wrap ((Go.bits .and .u64 (a0 / 2) 6148914691236517205) + (Go.bits .and .u64 a0 6148914691236517205))) / 4) 3689348814741910323) + (Go.bits .and .u64 (IntKind.u64.wrap ((Go.bits .and .u64 (a0 / 2) 6148914691236517205) + (Go.bits .and .u64 a0 6148914691236517205))) 3689348814741910323))))) 1085102592571150095) / 256))) / 65536))) + ((IntKind.u64.wrap ((IntKind.u64.wrap ((Go.bits .and .u64 (IntKind.u64.wrap (((IntKind.u64.wrap ((Go.bits .and .u64 ((IntKind.u64.wrap ((Go.bits .and .u64 (a0 / 2) 6148914691236517205) + (Go.bits .and .u64 a0 6148914691236517205))) / 4) 3689348814741910323) + (Go.bits .and .u64 (IntKind.u64.wrap ((Go.bits .and .u64 (a0 / 2) 6148914691236517205) + (Go.bits .and .u64 a0 6148914691236517205))) 3689348814741910323))) / 16) + (IntKind.u64.wrap ((Go.bits .and .u64 ((IntKind.u64.wrap ((Go.bits .and .u64 (a0 / 2) 6148914691236517205) + (Go.bits .and .u64 a0 6148914691236517205))) / 4) 3689348814741910323) + (Go.bits .and .u64 (IntKind.u64.wrap ((Go.bits .and .u64 (a0 / 2) 6148914691236517205) + (Go.bits .and .u64 a0 6148914691236517205))) 3689348814741910323))))) 1085102592571150095) + ((Go.bits .and .u64 (IntKind.u64.wrap (((IntKind.u64.wrap ((Go.bits .and .u64 ((IntKind.u64.wrap ((Go.bits .and .u64 (a0 / 2) 6148914691236517205) + (Go.bits .and .u64 a0 6148914691236517205))) / 4) 3689348814741910323) + (Go.bits .and .u64 (IntKind.u64.wrap ((Go.bits .and .u64 (a0 / 2) 6148914691236517205) + (Go.bits .and .u64 a0 6148914691236517205))) 3689348814741910323))) / 16) + (IntKind.u64.wrap ((Go.bits .and .u64 ((IntKind.u64.wrap ((Go.bits .and .u64 (a0 / 2) 6148914691236517205) + (Go.bits .and .u64 a0 6148914691236517205))) / 4) 3689348814741910323) + (Go.bits .and .u64 (IntKind.u64.wrap ((Go.bits .and .u64 (a0 / 2) 6148914691236517205) + (Go.bits .and .u64 a0 6148914691236517205))) 3689348814741910323))))) 1085102592571150095) / 256))) + ((IntKind.u64.wrap ((Go.bits .and .u64 (IntKind.u64.wrap (((IntKind.u64.wrap ((Go.bits .and .u64 ((IntKind.u64.wrap ((Go.bits .and .u64 (a0 / 2) 6148914691236517205) + (Go.bits .and .u64 a0 6148914691236517205))) / 4) 3689348814741910323) + (Go.bits .and .u64 (IntKind.u64.wrap ((Go.bits .and .u64 (a0 / 2) 6148914691236517205) + (Go.bits .and .u64 a0 6148914691236517205))) 3689348814741910323))) / 16) + (IntKind.u64.wrap ((Go.bits .and .u64 ((IntKind.u64.wrap ((Go.bits .and .u64 (a0 / 2) 6148914691236517205) + (Go.bits .and .u64 a0 6148914691236517205))) / 4) 3689348814741910323) + (Go.bits .and .u64 (IntKind.u64.wrap ((Go.bits .and .u64 (a0 / 2) 6148914691236517205) + (Go.bits .and .u64 a0 6148914691236517205))) 3689348814741910323))))) 1085102592571150095) + ((Go.bits .and .u64 (IntKind.u64.wrap (((IntKind.u64.wrap ((Go.bits .and .u64 ((IntKind.u64.wrap ((Go.bits .and .u64 (a0 / 2) 6148914691236517205) + (Go.bits .and .u64 a0 6148914691236517205))) / 4) 3689348814741910323) + (Go.bits .and .u64 (IntKind.u64.wrap ((Go.bits .and .u64 (a0 / 2) 6148914691236517205) + (Go.bits .and .u64 a0 6148914691236517205))) 3689348814741910323))) / 16) + (IntKind.u64.wrap ((Go.bits .and .u64 ((IntKind.u64.wrap ((Go.bits .and .u64 (a0 / 2) 6148914691236517205) + (Go.bits .and .u64 a0 6148914691236517205))) / 4) 3689348814741910323) + (Go.bits .and .u64 (IntKind.u64.wrap ((Go.bits .and .u64 (a0 / 2) 6148914691236517205) + (Go.bits .and .u64 a0 6148914691236517205))) 3689348814741910323))))) 1085102592571150095) / 256))) / 65536))) / 4294967296)))) 127)
set_option maxHeartbeats 8000000 in
set_option maxRecDepth 100000 in
theorem bits_OnesCount64.calls (a0 : Int) (r : Int) (w : World) (h : bits_OnesCount64.f a0 = some r) :
  Calls Tryd.prog 99 #[.int .u64 a0] w fun e w' => e = .returned (.int .i64 r) ∧ Drawn0 w w' := by
 have H : (some (Go.bits .and .i64 (wrap64 (IntKind.u64.wrap ((IntKind.u64.wrap ((IntKind.u64.wrap ((Go.bits .and .u64 (IntKind.u64.wrap (((IntKind.u64.wrap ((Go.bits .and .u64 ((IntKind.u64.wrap ((Go.bits .and .u64 (a0 / 2) 6148914691236517205) + (Go.bits .and .u64 a0 6148914691236517205))) / 4) 3689348814741910323) + (Go.bits .and .u64 (IntKind.u64.wrap ((Go.bits .and .u64 (a0 / 2) 6148914691236517205) + (Go.bits .and .u64 a0 6148914691236517205))) 3689348814741910323))) / 16) + (IntKind.u64.wrap ((Go.bits .and .u64 ((IntKind.u64.wrap ((Go.bits .and .u64 (a0 / 2) 6148914691236517205) + (Go.bits .and .u64 a0 6148914691236517205))) / 4) 3689348814741910323) + (Go.bits .and .u64 (IntKind.u64.wrap ((Go.bits .and .u64 (a0 / 2) 6148914691236517205) + (Go.bits .and .u64 a0 6148914691236517205))) 3689348814741910323))))) 1085102592571150095) + ((Go.bits .and .u64 (IntKind.u64.wrap (((IntKind.u64.wrap ((Go.bits .and .u64 ((IntKind.u64.wrap ((Go.bits .and .u64 (a0 / 2) 6148914691236517205) + (Go.bits .and .u64 a0 6148914691236517205))) / 4) 3689348814741910323) + (Go.bits .and .u64 (IntKind.u64.wrap ((Go.bits .and .u64 (a0 / 2) 6148914691236517205) + (Go.bits .and .u64 a0 6148914691236517205))) 3689348814741910323))) / 16) + (IntKind.u64.wrap ((Go.bits .and .u64 ((IntKind.u64.wrap ((Go.bits .and .u64 (a0 / 2) 6148914691236517205) + (Go.bits .and .u64 a0 6148914691236517205))) / 4) 3689348814741910323) + (Go.bits .and .u64 (IntKind.u64.wrap ((Go.bits .and .u64 (a0 / 2) 6148914691236517205) + (Go.bits .and .u64 a0 6148914691236517205))) 3689348814741910323))))) 1085102592571150095) / 256))) + ((IntKind.u64.wrap ((Go.bits .and .u64 (IntKind.u64.wrap (((IntKind.u64.wrap ((Go.bits .and .u64 ((IntKind.u64.wrap ((Go.bits .and .u64 (a0 / 2) 6148914691236517205) + (Go.bits .and .u64 a0 6148914691236517205))) / 4) 3689348814741910323) + (Go.bits .and .u64 (IntKind.u64.wrap ((Go.bits .and .u64 (a0 / 2) 6148914691236517205) + (Go.bits .and .u64 a0 6148914691236517205))) 3689348814741910323))) / 16) + (IntKind.u64.wrap ((Go.bits .and .u64 ((IntKind.u64.wrap ((Go.bits .and .u64 (a0 / 2) 6148914691236517205) + (Go.bits .and .u64 a0 6148914691236517205))) / 4) 3689348814741910323) + (Go.bits .and .u64 (IntKind.u64.wrap ((Go.bits .and .u64 (a0 / 2) 6148914691236517205) + (Go.bits .and .u64 a0 6148914691236517205))) 3689348814741910323))))) 1085102592571150095) + ((Go.bits .and .u64 (IntKind.u64.wrap (((IntKind.u64.wrap ((Go.bits .and .u64 ((IntKind.u64.wrap ((Go.bits .and .u64 (a0 / 2) 6148914691236517205) + (Go.bits .and .u64 a0 6148914691236517205))) / 4) 3689348814741910323) + (Go.bits .and .u64 (IntKind.u64.wrap ((Go.bits .and .u64 (a0 / 2) 6148914691236517205) + (Go.bits .and .u64 a0 6148914691236517205))) 3689348814741910323))) / 16) + (IntKind.u64.wrap ((Go.bits .and .u64 ((IntKind.u64.wrap ((Go.bits .and .u64 (a0 / 2) 6148914691236517205) + (Go.bits .and .u64 a0 6148914691236517205))) / 4) 3689348814741910323) + (Go.bits .and .u64 (IntKind.u64.wrap ((Go.bits .and .u64 (a0 / 2) 6148914691236517205) + (Go.bits .and .u64 a0 6148914691236517205))) 3689348814741910323))))) 1085102592571150095) / 256))) / 65536))) + ((IntKind.u64.wrap ((IntKind.u64.wrap ((Go.bits .and .u64 (IntKind.u64.wrap (((IntKind.u64.wrap ((Go.bits .and .u64 ((IntKind.u64.wrap ((Go.bits .and .u64 (a0 / 2) 6148914691236517205) + (Go.bits .and .u64 a0 6148914691236517205))) / 4) 3689348814741910323) + (Go.bits .and .u64 (IntKind.u64.wrap ((Go.bits .and .u64 (a0 / 2) 6148914691236517205) + (Go.bits .and .u64 a0 6148914691236517205))) 3689348814741910323))) / 16) + (IntKind.u64.wrap ((Go.bits .and .u64 ((IntKind.u64.wrap ((Go.bits .and .u64 (a0 / 2) 6148914691236517205) + (Go.bits .and .u64 a0 6148914691236517205))) / 4) 3689348814741910323) + (Go.bits .and .u64 (IntKind.u64.wrap ((Go.bits .and .u64 (a0 / 2) 6148914691236517205) + (Go.bits .and .u64 a0 6148914691236517205))) 3689348814741910323))))) 1085102592571150095) + ((Go.bits .and .u64 (IntKind.u64.wrap (((IntKind.u64.wrap ((Go.bits .and .u64 ((IntKind.u64.wrap ((Go.bits .and .u64 (a0 / 2) 6148914691236517205) + (Go.bits .and .u64 a0 6148914691236517205))) / 4) 3689348814741910323) + (Go.bits .and .u64 (IntKind.u64.wrap ((Go.bits .and .u64 (a0 / 2) 6148914691236517205) + (Go.bits .and .u64 a0 6148914691236517205))) 3689348814741910323))) / 16) + (IntKind.u64.wrap ((Go.bits .and .u64 ((IntKind.u64.wrap ((Go.bits .and .u64 (a0 / 2) 6148914691236517205) + (Go.bits .and .u64 a0 6148914691236517205))) / 4) 3689348814741910323) + (Go.bits .and .u64 (IntKind.u64.wrap ((Go.bits .and .u64 (a0 / 2) 6148914691236517205) + (Go.bits .and .u64 a0 6148914691236517205))) 3689348814741910323))))) 1085102592571150095) / 256))) + ((IntKind.u64.wrap ((Go.bits .and .u64 (IntKind.u64.wrap (((IntKind.u64.wrap ((Go.bits .and .u64 ((IntKind.u64.wrap ((Go.bits .and .u64 (a0 / 2) 6148914691236517205) + (Go.bits .and .u64 a0 6148914691236517205))) / 4) 3689348814741910323) + (Go.bits .and .u64 (IntKind.u64.wrap ((Go.bits .and .u64 (a0 / 2) 6148914691236517205) + (Go.bits .and .u64 a0 6148914691236517205))) 3689348814741910323))) / 16) + (IntKind.u64.wrap ((Go.bits .and .u64 ((IntKind.u64.wrap ((Go.bits .and .u64 (a0 / 2) 6148914691236517205) + (Go.bits .and .u64 a0 6148914691236517205))) / 4) 3689348814741910323) + (Go.bits .and .u64 (IntKind.u64.wrap ((Go.bits .and .u64 (a0 / 2) 6148914691236517205) + (Go.bits .and .u64 a0 6148914691236517205))) 3689348814741910323))))) 1085102592571150095) + ((Go.bits .and .u64 (IntKind.u64.wrap (((IntKind.u64.wrap ((Go.bits .and .u64 ((IntKind.u64.wrap ((Go.bits .and .u64 (a0 / 2) 6148914691236517205) + (Go.bits .and .u64 a0 6148914691236517205))) / 4) 3689348814741910323) + (Go.bits .and .u64 (IntKind.u64.wrap ((Go.bits .and .u64 (a0 / 2) 6148914691236517205) + (Go.bits .and .u64 a0 6148914691236517205))) 3689348814741910323))) / 16) + (IntKind.u64.wrap ((Go.bits .and .u64 ((IntKind.u64.wrap ((Go.bits .and .u64 (a0 / 2) 6148914691236517205) + (Go.bits .and .u64 a0 6148914691236517205))) / 4) 3689348814741910323) + (Go.bits .and .u64 (IntKind.u64.wrap ((Go.bits .and .u64 (a0 / 2) 6148914691236517205) + (Go.bits .and .u64 a0 6148914691236517205))) 3689348814741910323))))) 1085102592571150095) / 256))) / 65536))) / 4294967296)))) 127)) = some r := h
 clear h
 obtain rfl := Option.some.inj H
 go_enter Tryd.func99,Tryd.ntmps99
 go_wp2
 go_ret
 exact ⟨by first | rfl | (simp; done) | (simp [*]; done),by repeat (first | exact Drawn0.refl _ | apply Drawn0.step)⟩
def bits_Count.l0 : Nat → List Int → Int → Int → Int → Option (Int)
 | 0,_,_,_,_ => none
 | k + 1,x0,x3,x6,x7 => if x7 < x6 then (if 0 ≤ x7 then (if x7 < (x0.length : Int) then ((bits_OnesCount64.f (rd x0 x7)).bind fun t102 => (bits_Count.l0 k x0 (wrap64 (x3 + t102)) x6 (wrap64 (x7 + 1)))) else (none)) else (none)) else (some x3)
def bits_Count.f (k : Nat) (l0 : List Int) : Option (Int) := bits_Count.l0 k l0 0 (l0.length : Int) 0
set_option maxHeartbeats 8000000 in
set_option maxRecDepth 100000 in
theorem bits_Count.calls (k : Nat) (A0 : Option Addr) (c0 : Nat) (l0 : List Int) (r : Int) (w : World) (hr0 : Kd.C (Kd.int .u64) w A0 l0.length l0) (hc0 : l0.length ≤ c0) (h : bits_Count.f k l0 = some r) :
  Calls Tryd.prog 87 #[.slice A0 l0.length c0] w fun e w' => e = .returned (.int .i64 r) ∧ Drawn0 w w' := by
 have HR0 := aM_ hr0
 have HC0 := aM_ hc0
 clear hr0 hc0
 have H : (bits_Count.l0 k l0 0 (l0.length : Int) 0) = some r := h
 clear h
 have H' := aM_ H
 clear H
 go_enter Tryd.func87,Tryd.ntmps87
 go_wp2
 go_loopg [3,7] k (fun kq v3 v7 w' => ∃ (x3_1 : Int) (x7_1 : Int),v3 = .int .i64 x3_1 ∧ v7 = .int .i64 x7_1 ∧ Aside0 (bits_Count.l0 kq l0 x3_1 (l0.length : Int) x7_1 = some r) ∧ Aside0 (kq ≤ k) ∧ Drawn0 w w')
 case atStart => exact ⟨(0),(0),(by first | rfl | (simp; done) | (simp [*]; done)),(by first | rfl | (simp; done) | (simp [*]; done)),H',⟨Nat.le_refl _⟩,by repeat (first | exact Drawn0.refl _ | apply Drawn0.step)⟩
 case round =>
  clear H'
  obtain ⟨x3_1,x7_1,rfl,rfl,HA,HK1,⟨m1,rfl⟩⟩ := hrel
  cases gk with
  | zero => exact absurd HA.out (by simp [bits_Count.l0])
  | succ k1 =>
   have H := HA.out
   clear HA
   simp only [bits_Count.l0] at H
   by_cases c2 : x7_1 < (l0.length : Int)
   ·rw [if_pos c2] at H
    have c2b0 : decide (x7_1 < (l0.length : Int)) = true := decide_eq_true c2
    clear c2
    by_cases c3 : 0 ≤ x7_1
    ·rw [if_pos c3] at H
     have c3b0 : decide (0 ≤ x7_1) = true := decide_eq_true c3
     clear c3
     by_cases c4 : x7_1 < (l0.length : Int)
     ·rw [if_pos c4] at H
      have c4b0 : decide (x7_1 < (l0.length : Int)) = true := decide_eq_true c4
      clear c4
      replace H := Option.bind_eq_some_iff.mp H
      obtain ⟨t102,A50,H⟩ := H
      replace H : (bits_Count.l0 k1 l0 (wrap64 (x3_1 + t102)) (l0.length : Int) (wrap64 (x7_1 + 1))) = some r := H
      have A5 := aM_ A50
      clear A50
      have H' := aM_ H
      clear H
      have p101 : 0 ≤ (x7_1 : Int) := of_decide_eq_true (by assumption)
      have q101 : x7_1 < (l0.length : Int) := of_decide_eq_true (by assumption)
      obtain ⟨ad101,e101,hx101_0⟩ := Kd.at_int HR0.out x7_1 p101 q101
      cases e101
      replace p101 := eq_true p101
      replace q101 := eq_true q101
      go_wp2_with (first | ((with_reducible refine gate_callee (f := 99) rfl ?_); refine goesL_ (some 15) rfl rfl Tryd.func99 (by kernel_rfl) rfl #[.int .u64 (rd l0 x7_1)] rfl (by (try simp only [List.map_toArray,List.map_cons,List.map_nil]); first | done | rfl | (simp only [List.length_drop,List.length_take]; rfl)) ?_; (with_reducible refine (bits_OnesCount64.calls (rd l0 x7_1) t102 _ A5.out).mono ?_); rintro e w' ⟨rfl,⟨nd,rfl⟩⟩; refine ⟨_,rfl,?_⟩))
      go_roundg k1
      case measure => have := HK1.out; omega
      case rel => exact ⟨(wrap64 (x3_1 + t102)),(wrap64 (x7_1 + 1)),(by first | rfl | (simp; done) | (simp [*]; done)),(by first | rfl | (simp; done) | (simp [*]; done)),H',⟨by have := HK1.out; omega⟩,by repeat (first | exact Drawn0.refl _ | apply Drawn0.step)⟩
     ·rw [if_neg c4] at H
      exact absurd H (by simp)
    ·rw [if_neg c3] at H
     exact absurd H (by simp)
   ·rw [if_neg c2] at H
    have c2b0 : decide (x7_1 < (l0.length : Int)) = false := decide_eq_false c2
    clear c2
    obtain rfl := Option.some.inj H
    go_wp2
    go_ret
    exact ⟨by first | rfl | (simp; done) | (simp [*]; done),by repeat (first | exact Drawn0.refl _ | apply Drawn0.step)⟩
end Go.Proofs.YtfgbkklhjocmjaaDoor.Xq
namespace Go.Proofs.YtfgbkklhjocmjaaDoor.Xq
open Go.RowKit Go.Proofs.YtfgbkklhjocmjaaDoorW.PrintWords Go.Proofs.YtfgbkklhjocmjaaDoorW.PrintLast Go.Proofs.YtfgbkklhjocmjaaDoor.Gv
theorem and_pred_lt {x : Nat} (h : x ≠ 0) : x &&& (x - 1) < x := Nat.lt_of_le_of_lt Nat.and_le_right (by omega)
def bitsL (x : Nat) : List Nat := if h : x = 0 then [] else Lib.ctz 64 x :: bitsL (x &&& (x - 1))
termination_by x
decreasing_by exact and_pred_lt h
def listW (i : Nat) : List Nat → List Int
  | [] => []
  | x :: r => ((bitsL x).map fun b : Nat => ((i * 64 + b : Nat) : Int)) ++ listW (i + 1) r
def bits_List.f (l : List Int) : Option (List Int) := if l.length ≤ 10000 ∧ (∀ x ∈ l, 0 ≤ x ∧ x < 18446744073709551616) then some (listW 0 (l.map Int.toNat)) else none
theorem and127 (y : Int) : 0 ≤ Go.bits .and .i64 y 127 ∧ Go.bits .and .i64 y 127 ≤ 127 := by
  have h : (BitVec.ofInt 64 y &&& BitVec.ofInt 64 127).toNat ≤ 127 := by
    rw [BitVec.toNat_and]
    exact Nat.le_trans Nat.and_le_right (by decide)
  have e : Go.bits .and .i64 y 127 = IntKind.i64.wrap ((BitVec.ofInt 64 y &&& BitVec.ofInt 64 127).toNat : Int) := rfl
  rw [e, IntKind.wrap_i64]
  omega
theorem ones_f (x : Int) : ∃ c, bits_OnesCount64.f x = some c ∧ 0 ≤ c ∧ c ≤ 127 := by
  refine ⟨_, rfl, and127 _⟩
theorem Count_l0 (l : List Int) (hl : l.length ≤ 10000) : ∀ (d i k : Nat) (s : Int), i + d = l.length → d + 1 ≤ k → 0 ≤ s → s ≤ 127 * i → ∃ c, bits_Count.l0 k l s (l.length : Int) (i : Int) = some c ∧ 0 ≤ c ∧ c ≤ 127 * l.length
  | 0, i, k + 1, s, hi, hk, h0, h1 => by
    refine ⟨s, ?_, h0, by omega⟩
    rw [bits_Count.l0, if_neg (by omega)]
  | d + 1, i, k + 1, s, hi, hk, h0, h1 => by
    obtain ⟨c, hc, c0, c1⟩ := ones_f (rd l (i : Int))
    have w1 : wrap64 (s + c) = s + c := by unfold wrap64; omega
    have w2 : wrap64 ((i : Int) + 1) = ((i + 1 : Nat) : Int) := by unfold wrap64; omega
    rw [bits_Count.l0, if_pos (by omega), if_pos (by omega), if_pos (by omega), hc]
    simp only [Option.bind_some, w1, w2]
    exact Count_l0 l hl d (i + 1) k (s + c) (by omega) (by omega) (by omega) (by omega)
  | d, i, 0, s, hi, hk, h0, h1 => by omega
theorem Count_f (l : List Int) (hl : l.length ≤ 10000) : ∃ c, bits_Count.f (l.length + 1) l = some c ∧ 0 ≤ c ∧ c ≤ 1270000 := by
  obtain ⟨c, h1, h2, h3⟩ := Count_l0 l hl l.length 0 (l.length + 1) 0 (by omega) (by omega) (by omega) (by omega)
  exact ⟨c, h1, h2, by omega⟩
theorem bitsL_zero : bitsL 0 = [] := by rw [bitsL]; simp
theorem bitsL_pos {x : Nat} (h : x ≠ 0) : bitsL x = Lib.ctz 64 x :: bitsL (x &&& (x - 1)) := by rw [bitsL, dif_neg h]
theorem ctz_lt {x : Nat} (h : x ≠ 0) (hx : x < 18446744073709551616) : Lib.ctz 64 x < 64 := (Lib.lowest_bit 64 x h hx).2
theorem infoI3 : (Tryd.prog.info? 3).map (fun i => (i.zero, i.size, i.bytes)) = some (some (.int .i64 0), 1, 8) := by kernel_rfl
theorem listW_snoc (i : Nat) : ∀ (l : List Nat) (x : Nat), listW i (l ++ [x]) = listW i l ++ (bitsL x).map fun b : Nat => (((i + l.length) * 64 + b : Nat) : Int)
  | [], x => by simp [listW]
  | y :: r, x => by
    simp only [List.cons_append, listW, listW_snoc (i + 1) r x, List.length_cons, List.append_assoc]
    rw [show i + 1 + r.length = i + (r.length + 1) by omega]
theorem ctzFrom_at : ∀ (k f m : Nat), k < f → Lib.ctzFrom f (2 ^ k * (2 * m + 1)) = k
  | 0, f + 1, m, _ => by unfold Lib.ctzFrom; rw [if_pos (by simp)]
  | k + 1, f + 1, m, h => by
    have e : 2 ^ (k + 1) * (2 * m + 1) = 2 * (2 ^ k * (2 * m + 1)) := by rw [Nat.pow_succ, Nat.mul_comm (2 ^ k) 2, Nat.mul_assoc]
    unfold Lib.ctzFrom
    rw [e, if_neg (by omega), Nat.mul_div_cancel_left _ (by omega), ctzFrom_at k f m (by omega)]
    omega
theorem ctz_at (k m : Nat) (h : k < 64) : Lib.ctz 64 (2 ^ k * (2 * m + 1)) = k := by
  unfold Lib.ctz
  rw [if_neg (by have : 0 < 2 ^ k := Nat.two_pow_pos k; have : 0 < 2 ^ k * (2 * m + 1) := Nat.mul_pos this (by omega); omega), ctzFrom_at k 64 m h]
theorem clear_low (k m : Nat) : (2 ^ k * (2 * m + 1)) &&& (2 ^ k * (2 * m + 1) - 1) = 2 ^ (k + 1) * m := by
  have hp : 0 < 2 ^ k := Nat.two_pow_pos k
  have e0 : 2 ^ (k + 1) = 2 * 2 ^ k := by rw [Nat.pow_succ]; omega
  have e1 : 2 ^ k * (2 * m + 1) = 2 ^ (k + 1) * m + 2 ^ k := by rw [Nat.mul_add, e0, Nat.mul_one, Nat.mul_comm 2 (2 ^ k), Nat.mul_assoc]
  have e2 : 2 ^ k * (2 * m + 1) - 1 = 2 ^ (k + 1) * m + (2 ^ k - 1) := by rw [e1]; omega
  have e3 : 2 ^ (k + 1) * m = 2 ^ (k + 1) * m + 0 := by omega
  rw [e2, e1]
  apply Nat.eq_of_testBit_eq
  intro j
  conv => rhs; rw [e3]
  rw [Nat.testBit_and, Nat.testBit_two_pow_mul_add _ (by omega), Nat.testBit_two_pow_mul_add _ (by omega), Nat.testBit_two_pow_mul_add _ (by omega)]
  by_cases h : j < k + 1
  · simp only [h, if_true, Nat.testBit_two_pow, Nat.testBit_two_pow_sub_one, Nat.zero_testBit]
    by_cases h2 : k = j
    · subst h2; simp
    · simp [h2]
  · simp [h]
theorem bitsL_filter : ∀ (n k m : Nat), m < 2 ^ n → k + n ≤ 64 → bitsL (2 ^ k * m) = (List.range' k n).filter fun i => (2 ^ k * m).testBit i
  | 0, k, m, h, _ => by
    obtain rfl : m = 0 := by simpa using h
    simp [bitsL_zero]
  | n + 1, k, m, h, hk => by
    have h2 : m / 2 < 2 ^ n := by rw [Nat.pow_succ] at h; omega
    have IH := bitsL_filter n (k + 1) (m / 2) h2 (by omega)
    have e0 : 2 ^ (k + 1) * (m / 2) = 2 ^ k * (2 * (m / 2)) := by rw [Nat.pow_succ, Nat.mul_assoc]
    rw [List.range'_succ]
    rcases Nat.mod_two_eq_zero_or_one m with hm | hm
    · have em : 2 * (m / 2) = m := by omega
      rw [em] at e0
      rw [e0] at IH
      rw [IH, List.filter_cons_of_neg]
      have hb : (2 ^ k * m).testBit k = false := by rw [Nat.testBit_two_pow_mul]; simp [Nat.testBit_zero, hm]
      simp [hb]
    · have em : 2 * (m / 2) + 1 = m := by omega
      have hp : 0 < 2 ^ k := Nat.two_pow_pos k
      have hne : 2 ^ k * m ≠ 0 := by have := Nat.mul_pos hp (show 0 < m by omega); omega
      have hc := ctz_at k (m / 2) (by omega)
      have hl := clear_low k (m / 2)
      rw [em] at hc hl
      have hb : (2 ^ k * m).testBit k = true := by rw [Nat.testBit_two_pow_mul]; simp [Nat.testBit_zero, hm]
      rw [bitsL_pos hne, hc, hl, IH, List.filter_cons_of_pos hb]
      congr 1
      apply List.filter_congr
      intro i hi
      have hi2 : k + 1 ≤ i := (List.mem_range'_1.1 hi).1
      rw [Nat.testBit_two_pow_mul, Nat.testBit_two_pow_mul]
      have e3 : i - k = (i - (k + 1)) + 1 := by omega
      rw [e3, Nat.testBit_succ]
      simp [hi2, show k ≤ i by omega]
theorem bitsL_eq (x : Nat) (hx : x < 18446744073709551616) : bitsL x = (List.range 64).filter fun i => x.testBit i := by
  have := bitsL_filter 64 0 x (by simpa using hx) (by omega)
  simpa [List.range_eq_range'] using this
theorem bitsL_len (x : Nat) (hx : x < 18446744073709551616) : (bitsL x).length ≤ 64 := by
  rw [bitsL_eq x hx]
  exact Nat.le_trans (List.length_filter_le _ _) (by simp)
theorem listW_len : ∀ (l : List Nat) (i : Nat), (∀ x ∈ l, x < 18446744073709551616) → (listW i l).length ≤ 64 * l.length
  | [], i, _ => by simp [listW]
  | x :: r, i, h => by
    have h1 := bitsL_len x (h x (by simp))
    have h2 := listW_len r (i + 1) (fun y hy => h y (by simp [hy]))
    simp only [listW, List.length_append, List.length_map, List.length_cons]
    omega
theorem and_step {x : Nat} (hx : x < 18446744073709551616) (h0 : x ≠ 0) : Go.bits .and .u64 (x : Int) (IntKind.u64.wrap ((x : Int) - 1)) = ((x &&& (x - 1) : Nat) : Int) := by
  have e : IntKind.u64.wrap ((x : Int) - 1) = ((x - 1 : Nat) : Int) := by rw [IntKind.wrap_u64]; omega
  rw [e]
  exact bits_and_u64_nat x (x - 1) hx (by omega)
set_option maxRecDepth 100000 in
set_option maxHeartbeats 2000000 in
theorem bits_List.calls (A0 : Option Addr) (c0 : Nat) (l0 : List Int) (r : List Int) (w : World) (hr0 : Kd.C (Kd.int .u64) w A0 l0.length l0) (hc0 : l0.length ≤ c0) (hG_ : TabW w) (h : bits_List.f l0 = some r) :
    Calls Tryd.prog 61 #[.slice A0 l0.length c0] w fun e w' => ∃ v0_ : Value, e = .returned v0_ ∧ Kd.R (Kd.int .i64) 3 w' w.heap.size (fun _ => True) v0_ r ∧ Below w.heap.size w w' := by
  unfold bits_List.f at h
  by_cases hlen : l0.length ≤ 10000 ∧ (∀ x ∈ l0, 0 ≤ x ∧ x < 18446744073709551616)
  case neg => rw [if_neg hlen] at h; cases h
  rw [if_pos hlen] at h
  have HR := As2.mk (Option.some.inj h)
  obtain ⟨hl, hws⟩ := hlen
  obtain ⟨cc, hcf, hc1, hc2⟩ := Count_f l0 hl
  have HCF := As2.mk hcf
  have HW := As2.mk hws
  have R0 := As2.mk hr0
  have HG := As2.mk hG_
  have hmk : ∀ W : World, (Instr.makeSlice 31 (.int .i64 0) (.int .i64 cc)).run Tryd.prog W = .ok (.slice (some ⟨W.heap.size, 0, none⟩) 0 cc.toNat) (W.alloc (.cells (madeCells #[.int .i64 0] cc.toNat) 3)) := by
    intro W
    obtain ⟨i0, hi, hz⟩ := Option.map_eq_some_iff.1 infoI3
    simp only [Prod.mk.injEq] at hz
    obtain ⟨hz0, hz1, hz2⟩ := hz
    have z := run_make (P := Tryd.prog) W 31 3 i0 _ Tryd.underlying31 hi hz0 .i64 .i64 0 cc (by omega) (by omega) (by rw [hz2]; omega) (by omega)
    rw [hz1, Nat.mul_one] at z
    exact z
  have HE := As2.mk (show ∀ W : World, Kd.R (Kd.int .i64) 3 (W.alloc (.cells (madeCells #[.int .i64 0] cc.toNat) 3)) W.heap.size (fun _ => True) (.slice (some ⟨W.heap.size, 0, none⟩) 0 cc.toNat) [] from fun W => ⟨fun _ _ => trivial, [], ⟨rfl, .inr ⟨W.heap.size, cc.toNat, _, rfl, Nat.le_refl _, heap_alloc_new W _, Nat.zero_le _, by unfold maxLen; omega, by rw [size_madeCells]; simp [Kd.int, Kd.scalar], by simp⟩⟩, ⟨rfl, fun j p hp => by simp at hp⟩⟩)
  clear h hr0 hG_ hcf hws
  go_enter Tryd.func61, Tryd.ntmps61
  go_wp2_with (go_at_call 87; refine (bits_Count.calls _ A0 c0 l0 cc _ R0.out hc0 HCF.out).mono ?_; rintro e w1 ⟨rfl, ⟨nd, rfl⟩⟩)
  go_loopw [3, 11] (fun v i wr => ∃ j : Nat, i = .int .i64 j ∧ j ≤ l0.length ∧ As2 (Kd.R (Kd.int .i64) 3 wr w.heap.size (fun _ => True) v (listW 0 ((l0.take j).map Int.toNat))) ∧ As2 (Below w.heap.size w wr)) (fun _ i _ => l0.length - (intOf i).toNat)
  case atStart => exact ⟨0, rfl, Nat.zero_le _, ⟨HE.out (w.drewN nd)⟩, ⟨below_alloc (pw_below_drewN (Below.refl _ _) nd) _⟩⟩
  case round =>
    clear hmk
    obtain ⟨j, rfl, hj, E, EB⟩ := hrel
    by_cases hlt : j < l0.length
    · obtain ⟨ad, rfl, d0⟩ := Kd.at_int (Kd.C_below R0.out EB.out) (j : Int) (by omega) (by omega)
      rw [Int.toNat_natCast] at d0
      have hx := HW.out l0[j] (List.getElem_mem hlt)
      have hrd : rd l0 (j : Int) = l0[j] := by simp [rd, hlt]
      rw [hrd] at d0
      obtain ⟨x, hxn⟩ := Int.eq_ofNat_of_zero_le hx.1
      rw [hxn] at d0 hx
      have hx2 : x < 18446744073709551616 := by omega
      have TT := As2.mk (show listW 0 ((l0.take (j + 1)).map Int.toNat) = listW 0 ((l0.take j).map Int.toNat) ++ (bitsL x).map fun b : Nat => ((j * 64 + b : Nat) : Int) by
        rw [List.take_succ_eq_append_getElem hlt, List.map_append, List.map_singleton, listW_snoc, hxn]
        simp [Nat.min_eq_left hj])
      have hTl : (listW 0 ((l0.take (j + 1)).map Int.toNat)).length ≤ 640000 := by
        refine Nat.le_trans (listW_len _ 0 (fun y hy => ?_)) (by simp; omega)
        obtain ⟨z, hz, rfl⟩ := List.mem_map.1 hy
        have := HW.out z (List.mem_of_mem_take hz)
        omega
      obtain ⟨T, hT⟩ : ∃ T, T = listW 0 ((l0.take (j + 1)).map Int.toNat) := ⟨_, rfl⟩
      rw [← hT] at TT hTl
      have HT := As2.mk hT
      clear hT
      generalize listW 0 ((l0.take j).map Int.toNat) = xs0 at TT E
      clear hx hxn hrd
      go_wp2_with fail
      go_loopw [3, 5] (fun v y wr => ∃ (yn : Nat) (xs : List Int), y = .int .u64 yn ∧ yn < 18446744073709551616 ∧ As2 (Kd.R (Kd.int .i64) 3 wr w.heap.size (fun _ => True) v xs) ∧ As2 (xs ++ (bitsL yn).map (fun b : Nat => ((j * 64 + b : Nat) : Int)) = T) ∧ As2 (Below w.heap.size w wr)) (fun _ y _ => (intOf y).toNat)
      case atStart => exact ⟨x, xs0, rfl, hx2, E, ⟨TT.out.symm⟩, EB⟩
      case round =>
        clear E EB d0
        obtain ⟨yn, xs, rfl, hyn, E2, ET, EB⟩ := hrel
        by_cases hy0 : yn = 0
        · subst hy0
          have E3 := As2.mk (show xs = T by have := ET.out; rwa [bitsL_zero, List.map_nil, List.append_nil] at this)
          go_wp2_with fail
          exact ⟨⟨j + 1, by go_num, by omega, ⟨by rw [← HT.out, ← E3.out]; exact E2.out⟩, EB⟩, by simp [intOf]; omega⟩
        · have hy0' : ¬ ((yn : Int) = 0) := by omega
          have TZ := As2.mk (show bits_TrailingZeros64.f (yn : Int) = some (Lib.ctz 64 yn : Nat) by unfold bits_TrailingZeros64.f; rw [if_pos (by omega)]; simp)
          have hcz := ctz_lt hy0 hyn
          have hxl : xs.length ≤ 640000 := by rw [← ET.out] at hTl; simp at hTl; omega
          have EN := As2.mk (show (xs ++ [((j * 64 + Lib.ctz 64 yn : Nat) : Int)]) ++ (bitsL (yn &&& (yn - 1))).map (fun b : Nat => ((j * 64 + b : Nat) : Int)) = T by
            have := ET.out
            rw [bitsL_pos hy0, List.map_cons] at this
            rw [List.append_assoc]
            exact this)
          have hand : Go.bits .and .u64 (yn : Int) ((yn : Int) - 1) = ((yn &&& (yn - 1) : Nat) : Int) := by
            have z := and_step hyn hy0
            rwa [show IntKind.u64.wrap ((yn : Int) - 1) = (yn : Int) - 1 by rw [IntKind.wrap_u64]; omega] at z
          have hdec : yn &&& (yn - 1) < yn := and_pred_lt hy0
          have HY := As2.mk hy0
          generalize Lib.ctz 64 yn = cz at hcz TZ EN
          obtain ⟨e, he⟩ : ∃ e : Int, e = ((j * 64 + cz : Nat) : Int) := ⟨_, rfl⟩
          have he2 : (j : Int) * 64 + (cz : Int) = e := by rw [he]; simp
          rw [← he] at EN
          clear he
          generalize yn &&& (yn - 1) = y2 at hand hdec EN
          have hand' := hand
          have HA := As2.mk hand
          clear hand hand'
          have hyb : ((yn : Int) != 0) = true := by simp; omega
          go_wp2_with (first | (go_at_call 88; refine (bits_TrailingZeros64.calls (yn : Int) (cz : Nat) _ (TabW.below HG.out (by repeat (first | (with_reducible first | exact EB.out | apply below_alloc | apply pw_below_drewN | apply below_drew1) | exact EB.out))) TZ.out).mono ?_; rintro e w' ⟨rfl, hb⟩; have E2 := As2.mk (Kd.R_below E2.out hb); have EB := As2.mk (below_step EB.out hb); clear hb) | ((with_reducible refine gate_builtin (b := .append) (xs := #[.tmp 24, .tmp 30]) rfl ?_); at_builtin; go_must (refine Kd.R_append (Kd.int .i64) (w0 := w) w.heap.size rfl (.tmp 24) (.tmp 30) 31 3 (.int .i64 0) 8 rfl Tryd.underlying31 infoI3 rfl (by decide) (by omega) u3 xs e [.int .i64 e] (fun _ => True) (fun _ => False) rfl ?aX ?aP (fun _ hk => hk.elim) (fun _ _ => trivial) ?aO ?aB ?aS ?aL ?_); (case aX => go_must (first | exact rfl | exact congrArg (fun z => Value.slice (some ⟨z, 0, none⟩) 1 1) (by simp))); (case aP => exact rfl); (case aB => go_must (exact (by repeat (first | (with_reducible first | exact EB.out | apply below_alloc | apply pw_below_drewN | apply below_drew1) | exact EB.out)))); (case aO => go_must (exact (by (with_reducible repeat (first | apply Kd.R_alloc | apply Kd.R_drewN | apply Kd.R_drew)); exact E2.out))); (case aS => go_must (exact below_size (by repeat (first | (with_reducible first | exact EB.out | apply below_alloc | apply pw_below_drewN | apply below_drew1) | exact EB.out)))); (case aL => omega); intro v1 w3 ho hb hg hat; have F := As2.mk ho; have FB := As2.mk hb; clear ho hb hg hat))
          have hand' := HA.out
          exact ⟨⟨y2, xs ++ [e], by rw [hand'], by omega, F, EN, FB⟩, by simp only [intOf, hand', Int.toNat_natCast]; exact hdec⟩
    · obtain rfl : j = l0.length := by omega
      rw [List.take_length, HR.out] at E
      go_wp2_with fail
      go_ret
      exact ⟨_, rfl, E.out, EB.out⟩
end Go.Proofs.YtfgbkklhjocmjaaDoor.Xq
namespace Go.Proofs.YtfgbkklhjocmjaaDoor.Xq
open Go.RowKit Go.Proofs.YtfgbkklhjocmjaaDoorW.PrintWords Go.Proofs.YtfgbkklhjocmjaaDoorW.PrintLast Go.Proofs.YtfgbkklhjocmjaaDoorW.PrintMore
attribute [local go_sem] max2_int min2_int max_two min_two max_three min_three max_four min_four
def graph_Check.l0 : Nat → List (S53) → Int → Int → Int → List (S53) → Option (Int)
 | 0,_,_,_,_,_ => none
 | k + 1,x20,x21,x22,x114000,x114001 => if x22 < x21 then (if 0 ≤ x22 then (if x22 < (x20.length : Int) then ((graph_within.f x114000 ((rd_T53 x20 x22).f0) ((rd_T53 x20 x22).f1)).bind fun t116 => (if t116 = true then (if x22 > 0 then (if 0 ≤ (wrap64 (x22 - 1)) then (if (wrap64 (x22 - 1)) < (x114001.length : Int) then ((graph_compare.f k ((rd_T53 x114001 (wrap64 (x22 - 1))).f0) ((rd_T53 x114001 (wrap64 (x22 - 1))).f1) ((rd_T53 x20 x22).f0) ((rd_T53 x20 x22).f1)).bind fun t118 => (if t118 ≥ 0 then (some 13) else (graph_Check.l0 k x20 x21 (wrap64 (x22 + 1)) x114000 x114001))) else (none)) else (none)) else (graph_Check.l0 k x20 x21 (wrap64 (x22 + 1)) x114000 x114001)) else (some 4))) else (none)) else (none)) else (some 0)
def graph_Check.f (k : Nat) (a0_0 : Int) (l0_1 : List (S53)) : Option (Int) := if a0_0 < 0 then (some 4) else (if a0_0 > 8192 then (some 3) else (if (l0_1.length : Int) > 32768 then (some 3) else (graph_Check.l0 k l0_1 (l0_1.length : Int) 0 a0_0 l0_1)))
def graph_Check.T10 : Bool × List (List Nat × List Nat) := (true,[([],[]),([0],[0]),([1],[1]),([2],[2]),([3,2],[2,3]),([2],[2]),([5,2],[2,5]),([4,6,2],[2,4,6]),([7,2],[2,7]),([2],[2]),([8,9,2,2],[2,8,9]),([10,2],[2,10]),([2,11],[2,11]),([12,10],[12])])
def graph_Check.B10 : List Nat := [0,1,3,7,15,7,39,127,255,7,1023,2047,4095,8191]
theorem graph_Check.tab10 : rtab .any (opsOf Tryd.f34 10) = graph_Check.T10 := by kernel_rfl
theorem graph_Check.bits10 : waitsOk graph_Check.T10.2 graph_Check.B10 = true := by kernel_rfl
set_option maxHeartbeats 8000000 in
set_option maxRecDepth 100000 in
theorem graph_Check.calls (k : Nat) (a0_0 : Int) (A0_1 : Option Addr) (c0_1 : Nat) (l0_1 : List (S53)) (r : Int) (w : World) (hr0_1 : Kd.C k53 w A0_1 l0_1.length l0_1) (hc0_1 : l0_1.length ≤ c0_1) (h : graph_Check.f k a0_0 l0_1 = some r) :
  Calls Tryd.prog 34 #[.agg #[.int .i64 a0_0,.slice A0_1 l0_1.length c0_1]] w fun e w' => e = .returned (.int .i64 r) ∧ Below w.heap.size w w' := by
 have hu24 := Tryd.underlying24
 have hu53 := Tryd.underlying53
 have HR0_1 := aM_ hr0_1
 have HC0_1 := aM_ hc0_1
 clear hr0_1 hc0_1
 have HB := aM_ (Below.refl w.heap.size w)
 have H : (if a0_0 < 0 then (some 4) else (if a0_0 > 8192 then (some 3) else (if (l0_1.length : Int) > 32768 then (some 3) else (graph_Check.l0 k l0_1 (l0_1.length : Int) 0 a0_0 l0_1)))) = some r := h
 clear h
 by_cases c2 : a0_0 < 0
 ·rw [if_pos c2] at H
  have c2b0 : decide (a0_0 < 0) = true := decide_eq_true c2
  clear c2
  obtain rfl := Option.some.inj H
  go_enter Tryd.func34,Tryd.ntmps34
  go_wp2_with (first | ((with_reducible refine gate_dst (N := 1) rfl ?_); (try (refine gate_guard (by rfl) ?_; dsimp only)); refine box_event ?hg (N := 1) ?hd (cs := #[.int .i64 a0_0,.slice A0_1 l0_1.length c0_1]) (t := 24) ?hr ?_; (case hd => rfl); (case hg => rfl); (case hr => first | (go_simp; done) | (go_simp; rfl)); intro gb113 hg w3 hbox hb; have n0_ := aM_ (below_step (by repeat (first | (with_reducible first | exact HB.out | apply bA_ | apply bB_ | apply bC_) | exact HB.out)) hb); have n1_ := aM_ (hbox); have n2_ := aM_ ((by rw [hg]; exact (below_size (by repeat (first | (with_reducible first | exact HB.out | apply bA_ | apply bB_ | apply bC_) | exact HB.out))) : w.heap.size ≤ gb113)); have n3_ := aM_ ((by rw [hg]; exact (below_size (by repeat (first | (with_reducible first | exact HB.out | apply bA_ | apply bB_ | apply bC_) | exact HB.out))) : w.heap.size ≤ gb113)); clear HB; have HB := n0_; have BK113 := n1_; have GW113 := n2_; have GE113 := n3_; clear n0_ n1_ n2_ n3_; clear hb hbox hg; have hcz4_0 : w3.cell? ⟨gb113,0,none⟩ = some (.int .i64 a0_0) := (blk_cell BK113.out 0).trans rfl; have hcz4_1 : w3.cell? ⟨gb113,1,none⟩ = some (.slice A0_1 l0_1.length c0_1) := (blk_cell BK113.out 1).trans rfl; have hfz4_0 := blk_frozen BK113.out 0; have hfz4_1 := blk_frozen BK113.out 1))
  go_ret
  exact ⟨by first | rfl | (simp [errW_none,errW_some] <;> rfl) | (simp [*,errW_none,errW_some] <;> rfl),by repeat (first | (with_reducible first | exact HB.out | apply bA_ | apply bB_ | apply bC_ | refine below_set ?_ GE113.out) | exact HB.out)⟩
 ·rw [if_neg c2] at H
  have c2b0 : decide (a0_0 < 0) = false := decide_eq_false c2
  clear c2
  by_cases c5 : a0_0 > 8192
  ·rw [if_pos c5] at H
   have c5b0 : decide (8192 < a0_0) = true := decide_eq_true c5
   clear c5
   obtain rfl := Option.some.inj H
   go_enter Tryd.func34,Tryd.ntmps34
   go_wp2_with (first | ((with_reducible refine gate_dst (N := 1) rfl ?_); (try (refine gate_guard (by rfl) ?_; dsimp only)); refine box_event ?hg (N := 1) ?hd (cs := #[.int .i64 a0_0,.slice A0_1 l0_1.length c0_1]) (t := 24) ?hr ?_; (case hd => rfl); (case hg => rfl); (case hr => first | (go_simp; done) | (go_simp; rfl)); intro gb113 hg w6 hbox hb; have n0_ := aM_ (below_step (by repeat (first | (with_reducible first | exact HB.out | apply bA_ | apply bB_ | apply bC_) | exact HB.out)) hb); have n1_ := aM_ (hbox); have n2_ := aM_ ((by rw [hg]; exact (below_size (by repeat (first | (with_reducible first | exact HB.out | apply bA_ | apply bB_ | apply bC_) | exact HB.out))) : w.heap.size ≤ gb113)); have n3_ := aM_ ((by rw [hg]; exact (below_size (by repeat (first | (with_reducible first | exact HB.out | apply bA_ | apply bB_ | apply bC_) | exact HB.out))) : w.heap.size ≤ gb113)); clear HB; have HB := n0_; have BK113 := n1_; have GW113 := n2_; have GE113 := n3_; clear n0_ n1_ n2_ n3_; clear hb hbox hg; have hcz7_0 : w6.cell? ⟨gb113,0,none⟩ = some (.int .i64 a0_0) := (blk_cell BK113.out 0).trans rfl; have hcz7_1 : w6.cell? ⟨gb113,1,none⟩ = some (.slice A0_1 l0_1.length c0_1) := (blk_cell BK113.out 1).trans rfl; have hfz7_0 := blk_frozen BK113.out 0; have hfz7_1 := blk_frozen BK113.out 1))
   go_ret
   exact ⟨by first | rfl | (simp [errW_none,errW_some] <;> rfl) | (simp [*,errW_none,errW_some] <;> rfl),by repeat (first | (with_reducible first | exact HB.out | apply bA_ | apply bB_ | apply bC_ | refine below_set ?_ GE113.out) | exact HB.out)⟩
  ·rw [if_neg c5] at H
   have c5b0 : decide (8192 < a0_0) = false := decide_eq_false c5
   clear c5
   by_cases c8 : (l0_1.length : Int) > 32768
   ·rw [if_pos c8] at H
    have c8b0 : decide (32768 < (l0_1.length : Int)) = true := decide_eq_true c8
    have c8b1 : decide (32768 < l0_1.length) = true := decide_eq_true (by omega)
    clear c8
    obtain rfl := Option.some.inj H
    go_enter Tryd.func34,Tryd.ntmps34
    go_wp2_with (first | ((with_reducible refine gate_dst (N := 1) rfl ?_); (try (refine gate_guard (by rfl) ?_; dsimp only)); refine box_event ?hg (N := 1) ?hd (cs := #[.int .i64 a0_0,.slice A0_1 l0_1.length c0_1]) (t := 24) ?hr ?_; (case hd => rfl); (case hg => rfl); (case hr => first | (go_simp; done) | (go_simp; rfl)); intro gb113 hg w9 hbox hb; have n0_ := aM_ (below_step (by repeat (first | (with_reducible first | exact HB.out | apply bA_ | apply bB_ | apply bC_) | exact HB.out)) hb); have n1_ := aM_ (hbox); have n2_ := aM_ ((by rw [hg]; exact (below_size (by repeat (first | (with_reducible first | exact HB.out | apply bA_ | apply bB_ | apply bC_) | exact HB.out))) : w.heap.size ≤ gb113)); have n3_ := aM_ ((by rw [hg]; exact (below_size (by repeat (first | (with_reducible first | exact HB.out | apply bA_ | apply bB_ | apply bC_) | exact HB.out))) : w.heap.size ≤ gb113)); clear HB; have HB := n0_; have BK113 := n1_; have GW113 := n2_; have GE113 := n3_; clear n0_ n1_ n2_ n3_; clear hb hbox hg; have hcz10_0 : w9.cell? ⟨gb113,0,none⟩ = some (.int .i64 a0_0) := (blk_cell BK113.out 0).trans rfl; have hcz10_1 : w9.cell? ⟨gb113,1,none⟩ = some (.slice A0_1 l0_1.length c0_1) := (blk_cell BK113.out 1).trans rfl; have hfz10_0 := blk_frozen BK113.out 0; have hfz10_1 := blk_frozen BK113.out 1))
    go_ret
    exact ⟨by first | rfl | (simp [errW_none,errW_some] <;> rfl) | (simp [*,errW_none,errW_some] <;> rfl),by repeat (first | (with_reducible first | exact HB.out | apply bA_ | apply bB_ | apply bC_ | refine below_set ?_ GE113.out) | exact HB.out)⟩
   ·rw [if_neg c8] at H
    have c8b0 : decide (32768 < (l0_1.length : Int)) = false := decide_eq_false c8
    have c8b1 : decide (32768 < l0_1.length) = false := decide_eq_false (by omega)
    clear c8
    have H' := aM_ H
    clear H
    go_enter Tryd.func34,Tryd.ntmps34
    go_wp2_with (first | ((with_reducible refine gate_dst (N := 1) rfl ?_); (try (refine gate_guard (by rfl) ?_; dsimp only)); refine box_event ?hg (N := 1) ?hd (cs := #[.int .i64 a0_0,.slice A0_1 l0_1.length c0_1]) (t := 24) ?hr ?_; (case hd => rfl); (case hg => rfl); (case hr => first | (go_simp; done) | (go_simp; rfl)); intro gb113 hg w11 hbox hb; have n0_ := aM_ (below_step (by repeat (first | (with_reducible first | exact HB.out | apply bA_ | apply bB_ | apply bC_) | exact HB.out)) hb); have n1_ := aM_ (hbox); have n2_ := aM_ ((by rw [hg]; exact (below_size (by repeat (first | (with_reducible first | exact HB.out | apply bA_ | apply bB_ | apply bC_) | exact HB.out))) : w.heap.size ≤ gb113)); have n3_ := aM_ ((by rw [hg]; exact (below_size (by repeat (first | (with_reducible first | exact HB.out | apply bA_ | apply bB_ | apply bC_) | exact HB.out))) : w.heap.size ≤ gb113)); clear HB; have HB := n0_; have BK113 := n1_; have GW113 := n2_; have GE113 := n3_; clear n0_ n1_ n2_ n3_; clear hb hbox hg; have hcz12_0 : w11.cell? ⟨gb113,0,none⟩ = some (.int .i64 a0_0) := (blk_cell BK113.out 0).trans rfl; have hcz12_1 : w11.cell? ⟨gb113,1,none⟩ = some (.slice A0_1 l0_1.length c0_1) := (blk_cell BK113.out 1).trans rfl; have hfz12_0 := blk_frozen BK113.out 0; have hfz12_1 := blk_frozen BK113.out 1))
    go_loopg [22] k (fun kq v22 w' => ∃ (x22_1 : Int),v22 = .int .i64 x22_1 ∧ Aside0 (graph_Check.l0 kq l0_1 (l0_1.length : Int) x22_1 a0_0 l0_1 = some r) ∧ Aside0 (kq ≤ k) ∧ Aside0 (w'.heap[gb113]? = some (.cells #[.int .i64 a0_0,(.slice A0_1 l0_1.length c0_1)] 24 (0,0))) ∧ Aside0 (Below w.heap.size w w'))
    case atStart => exact ⟨(0),(by first | rfl | (simp; done) | (simp [*]; done)),H',⟨Nat.le_refl _⟩,⟨by (with_reducible repeat (first | refine blk_drewN ?_ _ | refine blk_drew ?_ | refine blk_alloc ?_ _)); exact BK113.out⟩,⟨by repeat (first | (with_reducible first | exact HB.out | apply bA_ | apply bB_ | apply bC_ | refine below_set ?_ GE113.out) | exact HB.out)⟩⟩
    case round =>
     clear H'
     try clear c2
     try clear c2b0
     try clear p2
     try clear c3
     try clear c5
     try clear c5b0
     try clear c8
     try clear c8b0
     try clear c8b1
     try clear hcz10_0
     try clear hcz10_1
     try clear hcz12_0
     try clear hcz12_1
     try clear hcz4_0
     try clear hcz4_1
     try clear hcz7_0
     try clear hcz7_1
     try clear hfz10_0
     try clear hfz10_1
     try clear hfz12_0
     try clear hfz12_1
     try clear hfz4_0
     try clear hfz4_1
     try clear hfz7_0
     try clear hfz7_1
     obtain ⟨x22_1,rfl,HA,HK1,BK113,HB⟩ := hrel
     cases gk with
     | zero => exact absurd HA.out (by simp [graph_Check.l0])
     | succ k1 =>
      have H := HA.out
      clear HA
      simp only [graph_Check.l0] at H
      by_cases c13 : x22_1 < (l0_1.length : Int)
      ·rw [if_pos c13] at H
       have c13b0 : decide (x22_1 < (l0_1.length : Int)) = true := decide_eq_true c13
       clear c13
       by_cases c14 : 0 ≤ x22_1
       ·rw [if_pos c14] at H
        have c14b0 : decide (0 ≤ x22_1) = true := decide_eq_true c14
        clear c14
        by_cases c15 : x22_1 < (l0_1.length : Int)
        ·rw [if_pos c15] at H
         have c15b0 : decide (x22_1 < (l0_1.length : Int)) = true := decide_eq_true c15
         clear c15
         replace H := Option.bind_eq_some_iff.mp H
         obtain ⟨t116,A160,H⟩ := H
         replace H : (if t116 = true then (if x22_1 > 0 then (if 0 ≤ (wrap64 (x22_1 - 1)) then (if (wrap64 (x22_1 - 1)) < (l0_1.length : Int) then ((graph_compare.f k1 ((rd_T53 l0_1 (wrap64 (x22_1 - 1))).f0) ((rd_T53 l0_1 (wrap64 (x22_1 - 1))).f1) ((rd_T53 l0_1 x22_1).f0) ((rd_T53 l0_1 x22_1).f1)).bind fun t118 => (if t118 ≥ 0 then (some 13) else (graph_Check.l0 k1 l0_1 (l0_1.length : Int) (wrap64 (x22_1 + 1)) a0_0 l0_1))) else (none)) else (none)) else (graph_Check.l0 k1 l0_1 (l0_1.length : Int) (wrap64 (x22_1 + 1)) a0_0 l0_1)) else (some 4)) = some r := H
         have A16 := aM_ A160
         clear A160
         by_cases c17 : t116 = true
         ·subst c17
          have H1 : (if x22_1 > 0 then (if 0 ≤ (wrap64 (x22_1 - 1)) then (if (wrap64 (x22_1 - 1)) < (l0_1.length : Int) then ((graph_compare.f k1 ((rd_T53 l0_1 (wrap64 (x22_1 - 1))).f0) ((rd_T53 l0_1 (wrap64 (x22_1 - 1))).f1) ((rd_T53 l0_1 x22_1).f0) ((rd_T53 l0_1 x22_1).f1)).bind fun t118 => (if t118 ≥ 0 then (some 13) else (graph_Check.l0 k1 l0_1 (l0_1.length : Int) (wrap64 (x22_1 + 1)) a0_0 l0_1))) else (none)) else (none)) else (graph_Check.l0 k1 l0_1 (l0_1.length : Int) (wrap64 (x22_1 + 1)) a0_0 l0_1)) = some r := by rw [if_pos rfl] at H; exact H
          clear H
          have H := H1
          clear H1
          by_cases c18 : x22_1 > 0
          ·rw [if_pos c18] at H
           have c18b0 : decide (0 < x22_1) = true := decide_eq_true c18
           clear c18
           obtain ⟨ji19,hji19⟩ : ∃ j_ : Int,(wrap64 (x22_1 - 1)) = j_ := ⟨_,rfl⟩
           replace H : (if 0 ≤ (ji19) then (if (ji19) < (l0_1.length : Int) then ((graph_compare.f k1 ((rd_T53 l0_1 (ji19)).f0) ((rd_T53 l0_1 (ji19)).f1) ((rd_T53 l0_1 x22_1).f0) ((rd_T53 l0_1 x22_1).f1)).bind fun t118 => (if t118 ≥ 0 then (some 13) else (graph_Check.l0 k1 l0_1 (l0_1.length : Int) (wrap64 (x22_1 + 1)) a0_0 l0_1))) else (none)) else (none)) = some r := by first | (rw [hji19] at H; exact H) | (simp only [hji19] at H ⊢; exact H)
           (try rw [hji19] at A16)
           have hji19w : (IntKind.i64.wrap (x22_1 - 1)) = ji19 := (i64_w _).trans hji19
           by_cases c20 : 0 ≤ (ji19)
           ·rw [if_pos c20] at H
            have c20b0 : decide (0 ≤ (ji19)) = true := decide_eq_true c20
            clear c20
            by_cases c21 : (ji19) < (l0_1.length : Int)
            ·rw [if_pos c21] at H
             have c21b0 : decide ((ji19) < (l0_1.length : Int)) = true := decide_eq_true c21
             clear c21
             replace H := Option.bind_eq_some_iff.mp H
             obtain ⟨t118,A220,H⟩ := H
             replace H : (if t118 ≥ 0 then (some 13) else (graph_Check.l0 k1 l0_1 (l0_1.length : Int) (wrap64 (x22_1 + 1)) a0_0 l0_1)) = some r := H
             have A22 := aM_ A220
             clear A220
             by_cases c23 : t118 ≥ 0
             ·rw [if_pos c23] at H
              have c23b0 : decide (0 ≤ t118) = true := decide_eq_true c23
              clear c23
              obtain rfl := Option.some.inj H
              have p114 : 0 ≤ (x22_1 : Int) := of_decide_eq_true (by assumption)
              have q114 : x22_1 < (l0_1.length : Int) := of_decide_eq_true (by assumption)
              obtain ⟨ad114,e114,hx114_0,hx114_1⟩ := at_T53 HR0_1.out x22_1 p114 q114
              cases e114
              replace hx114_0 := (HB.out.cell (World.block_lt_of_cell? w _ hx114_0)).trans hx114_0
              replace hx114_1 := (HB.out.cell (World.block_lt_of_cell? w _ hx114_1)).trans hx114_1
              replace p114 := eq_true p114
              replace q114 := eq_true q114
              try go_wp2_with (first | ((with_reducible refine gate_dst (N := 4) rfl ?_); (try (refine gate_guard (by rfl) ?_; dsimp only)); refine box_event ?hg (N := 4) ?hd (cs := #[.int .i64 0,.int .i64 0]) (t := 53) ?hr ?_; (case hd => rfl); (case hg => rfl); (case hr => first | (go_simp; done) | (go_simp; rfl)); intro gb115 hg w24 hbox hb; have n0_ := aM_ (blk_below (g := gb113) (o := .cells #[.int .i64 a0_0,.slice (some ad114) l0_1.length c0_1] 24 (0,0)) (by (with_reducible repeat (first | refine blk_drewN ?_ _ | refine blk_drew ?_ | refine blk_alloc ?_ _)); exact BK113.out) hb); have n1_ := aM_ (below_step (by repeat (first | (with_reducible first | exact HB.out | apply bA_ | apply bB_ | apply bC_ | refine below_set ?_ GE113.out) | exact HB.out)) hb); have n2_ := aM_ (hbox); have n3_ := aM_ ((by rw [hg]; exact (below_size (by repeat (first | (with_reducible first | exact HB.out | apply bA_ | apply bB_ | apply bC_ | refine below_set ?_ GE113.out) | exact HB.out))) : w.heap.size ≤ gb115)); have n4_ := aM_ ((by rw [hg]; exact (below_size (by repeat (first | (with_reducible first | exact HB.out | apply bA_ | apply bB_ | apply bC_ | refine below_set ?_ GE113.out) | exact HB.out))) : w.heap.size ≤ gb115)); have n5_ := aM_ ((by rw [hg]; exact Nat.ne_of_lt (blk_lt (g := gb113) (o := .cells #[.int .i64 a0_0,.slice (some ad114) l0_1.length c0_1] 24 (0,0)) (by (with_reducible repeat (first | refine blk_drewN ?_ _ | refine blk_drew ?_ | refine blk_alloc ?_ _)); exact BK113.out)) : gb113 ≠ gb115)); have n6_ := aM_ ((by rw [hg]; exact Nat.ne_of_gt (blk_lt (g := gb113) (o := .cells #[.int .i64 a0_0,.slice (some ad114) l0_1.length c0_1] 24 (0,0)) (by (with_reducible repeat (first | refine blk_drewN ?_ _ | refine blk_drew ?_ | refine blk_alloc ?_ _)); exact BK113.out)) : gb115 ≠ gb113)); clear BK113; clear HB; have BK113 := n0_; have HB := n1_; have BK115 := n2_; have GW115 := n3_; have GE115 := n4_; have NB113_115 := n5_; have NB115_113 := n6_; clear n0_ n1_ n2_ n3_ n4_ n5_ n6_; clear hb hbox hg; have hnb25 := NB115_113.out; have hnc25 := NB113_115.out; have hcz26_0 : w24.cell? ⟨gb115,0,none⟩ = some (.int .i64 0) := (blk_cell BK115.out 0).trans rfl; have hcz26_1 : w24.cell? ⟨gb115,1,none⟩ = some (.int .i64 0) := (blk_cell BK115.out 1).trans rfl; have hfz26_0 := blk_frozen BK115.out 0; have hfz26_1 := blk_frozen BK115.out 1; have hcz27_0 : w24.cell? ⟨gb113,0,none⟩ = some (.int .i64 a0_0) := (blk_cell BK113.out 0).trans rfl; have hcz27_1 : w24.cell? ⟨gb113,1,none⟩ = some (.slice (some ad114) l0_1.length c0_1) := (blk_cell BK113.out 1).trans rfl; have hfz27_0 := blk_frozen BK113.out 0; have hfz27_1 := blk_frozen BK113.out 1) | ((with_reducible refine gate_callee (f := 65) rfl ?_); refine goesL_ (some 31) rfl rfl Tryd.func65 (by kernel_rfl) rfl #[.int .i64 a0_0,.agg #[.int .i64 ((rd_T53 l0_1 x22_1).f0),.int .i64 ((rd_T53 l0_1 x22_1).f1)]] rfl (by (try simp only [List.map_toArray,List.map_cons,List.map_nil]); first | done | rfl | (simp only [List.length_drop,List.length_take]; rfl)) ?_; (with_reducible refine (graph_within.calls a0_0 ((rd_T53 l0_1 x22_1).f0) ((rd_T53 l0_1 x22_1).f1) true _ A16.out).mono ?_); rintro e w28 ⟨rfl,hb⟩; refine ⟨_,rfl,?_⟩; have n0_ := aM_ (blk_below (g := gb113) (o := .cells #[.int .i64 a0_0,.slice (some ad114) l0_1.length c0_1] 24 (0,0)) (by (with_reducible repeat (first | refine blk_drewN ?_ _ | refine blk_drew ?_ | refine blk_alloc ?_ _)); refine blk_far ?_ NB113_115.out _; (with_reducible repeat (first | refine blk_drewN ?_ _ | refine blk_drew ?_ | refine blk_alloc ?_ _)); refine blk_far ?_ NB113_115.out _; (with_reducible repeat (first | refine blk_drewN ?_ _ | refine blk_drew ?_ | refine blk_alloc ?_ _)); exact BK113.out) hb); have n1_ := aM_ (blk_below (g := gb115) (o := .cells #[.int .i64 ((rd_T53 l0_1 x22_1).f0),.int .i64 ((rd_T53 l0_1 x22_1).f1)] 53 (0,0)) (by (with_reducible repeat (first | refine blk_drewN ?_ _ | refine blk_drew ?_ | refine blk_alloc ?_ _)); refine blk_put (cs := #[.int .i64 ((rd_T53 l0_1 x22_1).f0),.int .i64 0]) ?_ 1 _ rfl; (with_reducible repeat (first | refine blk_drewN ?_ _ | refine blk_drew ?_ | refine blk_alloc ?_ _)); refine blk_put (cs := #[.int .i64 0,.int .i64 0]) ?_ 0 _ rfl; (with_reducible repeat (first | refine blk_drewN ?_ _ | refine blk_drew ?_ | refine blk_alloc ?_ _)); exact BK115.out) hb); have n2_ := aM_ (below_step (by repeat (first | (with_reducible first | exact HB.out | apply bA_ | apply bB_ | apply bC_ | refine below_set ?_ GE113.out | refine below_set ?_ GE115.out) | exact HB.out)) hb); clear BK113; clear BK115; clear HB; have BK113 := n0_; have BK115 := n1_; have HB := n2_; clear n0_ n1_ n2_; (try clear hb); (try clear hb2); (try clear hk); (try clear hi)))
              have n0_ := aM_ (blk_drew BK113.out)
              have n1_ := aM_ (blk_drew BK115.out)
              have n2_ := aM_ (below_drew1 HB.out)
              clear BK113
              clear BK115
              clear HB
              have BK113 := n0_
              have BK115 := n1_
              have HB := n2_
              clear n0_ n1_ n2_
              have p117 : 0 ≤ ((ji19) : Int) := of_decide_eq_true (by assumption)
              have q117 : (ji19) < (l0_1.length : Int) := of_decide_eq_true (by assumption)
              obtain ⟨ad117,e117,hx117_0,hx117_1⟩ := at_T53 HR0_1.out (ji19) p117 q117
              have hw117_1 := hx117_1
              have hw117_0 := hx117_0
              obtain rfl : ad114 = ad117 := (by injection e117)
              replace hx117_0 := (HB.out.cell (World.block_lt_of_cell? w _ hx117_0)).trans hx117_0
              replace hx117_1 := (HB.out.cell (World.block_lt_of_cell? w _ hx117_1)).trans hx117_1
              replace p117 := eq_true p117
              replace q117 := eq_true q117
              refine start_ (n := 14) (S := fun w' => w'.cell? ⟨gb113,0,none⟩ = some (.int .i64 a0_0) ∧ w'.cell? ⟨gb113,1,none⟩ = some (.slice (some ad114) l0_1.length c0_1) ∧ w'.cell? ⟨gb115,0,none⟩ = some (.int .i64 ((rd_T53 l0_1 x22_1).f0)) ∧ w'.cell? ⟨gb115,1,none⟩ = some (.int .i64 ((rd_T53 l0_1 x22_1).f1)) ∧ w'.cell? (ad114.add (((ji19)).toNat * 2)) = some (.int .i64 ((rd_T53 l0_1 (ji19)).f0)) ∧ w'.cell? ⟨(ad114.add (((ji19)).toNat * 2)).block,(ad114.add (((ji19)).toNat * 2)).off + 1,none⟩ = some (.int .i64 ((rd_T53 l0_1 (ji19)).f1))) (ds := []) #[f_,f_,f_,f_,f_,f_,f_,f_,f_,f_,f_,f_,f_,f_] (by kernel_rfl) rfl rfl ⟨(blk_cell BK113.out 0).trans rfl,(blk_cell BK113.out 1).trans rfl,(blk_cell BK115.out 0).trans rfl,(blk_cell BK115.out 1).trans rfl,((HB.out.cell (World.block_lt_of_cell? w _ hw117_0)).trans hw117_0),((HB.out.cell (World.block_lt_of_cell? w _ hw117_1)).trans hw117_1)⟩ (fun hHeld => ?_); refine with_tabW graph_Check.tab10 graph_Check.bits10 (fun HT_ HW_ => ?_)
              generalize w28.drew = w29 at BK113 BK115 HB hx117_0 hx117_1 hHeld ⊢
              refine pure_ (i := 0) (N := some 34) (v := ?_) (a' := ?_) #[t_,f_,f_,f_,f_,f_,f_,f_,f_,f_,f_,f_,f_,f_] rfl rfl (any_of HT_.out (by kernel_rfl)) (fun _ _ _ h => h) (Or.inl ⟨by rfl,?_⟩) ?_ ?_
              rotate_left
              ·intro w'
               go_simp
               with_reducible rfl
              rotate_left
              ·simp only [Act.put,uA_,uB_,uC_,i64_w,i32_w]
               rfl
              refine pure_ (i := 1) (N := some 35) (v := ?_) (a' := ?_) #[t_,t_,f_,f_,f_,f_,f_,f_,f_,f_,f_,f_,f_,f_] rfl rfl (any_of HT_.out (by kernel_rfl)) (fun _ _ _ h => h) (Or.inl ⟨by rfl,?_⟩) ?_ ?_
              rotate_left
              ·intro w'
               go_simp
               with_reducible rfl
              rotate_left
              ·simp only [Act.put,uA_,uB_,uC_,i64_w,i32_w]
               rfl
              refine pure_ (i := 2) (N := some 36) (v := ?_) (a' := ?_) #[t_,t_,t_,f_,f_,f_,f_,f_,f_,f_,f_,f_,f_,f_] rfl rfl (any_of HT_.out (by kernel_rfl)) (fun _ _ _ h => h) (Or.inl ⟨by rfl,?_⟩) ?_ ?_
              rotate_left
              ·intro w'
               go_simp
               with_reducible rfl
              rotate_left
              ·simp only [Act.put,uA_,uB_,uC_,i64_w,i32_w]
               rfl
              refine pure_ (i := 3) (N := some 37) (v := ?_) (a' := ?_) #[t_,t_,t_,t_,f_,f_,f_,f_,f_,f_,f_,f_,f_,f_] rfl rfl (any_of HT_.out (by kernel_rfl)) (fun _ _ _ h => h) (Or.inl ⟨by rfl,?_⟩) ?_ ?_
              rotate_left
              ·intro w'
               go_simp
               with_reducible rfl
              rotate_left
              ·simp only [Act.put,uA_,uB_,uC_,i64_w,i32_w]
               rfl
              refine pure_ (i := 5) (N := some 39) (v := ?_) (a' := ?_) #[t_,t_,t_,t_,f_,t_,f_,f_,f_,f_,f_,f_,f_,f_] rfl rfl (any_of HT_.out (by kernel_rfl)) (fun _ _ _ h => h) (Or.inl ⟨by rfl,?_⟩) ?_ ?_
              rotate_left
              ·intro w'
               go_simp
               with_reducible rfl
              rotate_left
              ·simp only [Act.put,uA_,uB_,uC_,i64_w,i32_w]
               rfl
              refine pure_ (i := 6) (N := some 40) (v := ?_) (a' := ?_) #[t_,t_,t_,t_,f_,t_,t_,f_,f_,f_,f_,f_,f_,f_] rfl rfl (any_of HT_.out (by kernel_rfl)) (fun _ _ _ h => h) (Or.inl ⟨by rfl,?_⟩) ?_ ?_
              rotate_left
              ·intro w'
               go_simp
               with_reducible rfl
              rotate_left
              ·simp only [Act.put,uA_,uB_,uC_,i64_w,i32_w]
               rfl
              refine take_ (i := 4) (N := some 38) (v := ?_) (a' := ?_) #[t_,t_,t_,t_,t_,t_,t_,f_,f_,f_,f_,f_,f_,f_] rfl rfl (take_ofW HT_.out HW_.out (by kernel_rfl)) (fun _ _ _ h => h) (Or.inl ⟨by rfl,?_⟩) hHeld ?_ ?_
              rotate_left
              ·rintro w' ⟨s0,s1,s2,s3,s4,s5⟩
               go_simp
               with_reducible rfl
              rotate_left
              ·simp only [Act.put,uA_,uB_,uC_,i64_w,i32_w]
               rfl
              refine pure_ (i := 7) (N := some 41) (v := ?_) (a' := ?_) #[t_,t_,t_,t_,t_,t_,t_,t_,f_,f_,f_,f_,f_,f_] rfl rfl (any_of HT_.out (by kernel_rfl)) (fun _ _ _ h => h) (Or.inl ⟨by rfl,?_⟩) ?_ ?_
              rotate_left
              ·intro w'
               go_simp
               with_reducible rfl
              rotate_left
              ·simp only [Act.put,uA_,uB_,uC_,i64_w,i32_w]
               rfl
              refine take_ (i := 8) (N := some 42) (v := ?_) (a' := ?_) #[t_,t_,t_,t_,t_,t_,t_,t_,t_,f_,f_,f_,f_,f_] rfl rfl (take_ofW HT_.out HW_.out (by kernel_rfl)) (fun _ _ _ h => h) (Or.inl ⟨by rfl,?_⟩) hHeld ?_ ?_
              rotate_left
              ·rintro w' ⟨s0,s1,s2,s3,s4,s5⟩
               go_simp
               with_reducible rfl
              rotate_left
              ·simp only [Act.put,uA_,uB_,uC_,i64_w,i32_w]
               rfl
              refine take_ (i := 9) (N := some 43) (v := ?_) (a' := ?_) #[t_,t_,t_,t_,t_,t_,t_,t_,t_,t_,f_,f_,f_,f_] rfl rfl (take_ofW HT_.out HW_.out (by kernel_rfl)) (fun _ _ _ h => h) (Or.inl ⟨by rfl,?_⟩) hHeld ?_ ?_
              rotate_left
              ·rintro w' ⟨s0,s1,s2,s3,s4,s5⟩
               go_simp
               with_reducible rfl
              rotate_left
              ·simp only [Act.put,uA_,uB_,uC_,i64_w,i32_w]
               rfl
              refine one_ (i := 10) (N := some 44) #[t_,t_,t_,t_,t_,t_,t_,t_,t_,t_,t_,f_,f_,f_] rfl rfl (one_of HT_.out (by kernel_rfl)) (by decide) (fun K hK => ?_)
              refine goes_ Tryd.func68 (by kernel_rfl) rfl #[.agg #[.int .i64 ((rd_T53 l0_1 (ji19)).f0),.int .i64 ((rd_T53 l0_1 (ji19)).f1)],.agg #[.int .i64 ((rd_T53 l0_1 x22_1).f0),.int .i64 ((rd_T53 l0_1 x22_1).f1)]] (by rfl) rfl rfl (by (try simp only [List.map_toArray,List.map_cons,List.map_nil]); first | done | (simp only [hji19]; rfl) | rfl | (simp only [List.length_drop,List.length_take]; rfl)) ?_
              with_reducible refine (graph_compare.calls k1 ((rd_T53 l0_1 (ji19)).f0) ((rd_T53 l0_1 (ji19)).f1) ((rd_T53 l0_1 x22_1).f0) ((rd_T53 l0_1 x22_1).f1) t118 _ A22.out).mono ?_
              rintro e w30 ⟨rfl,hb⟩
              refine ⟨_,rfl,?_⟩
              have n0_ := aM_ (blk_below (g := gb113) (o := .cells #[.int .i64 a0_0,.slice (some ad114) l0_1.length c0_1] 24 (0,0)) (by (with_reducible repeat (first | refine blk_drewN ?_ _ | refine blk_drew ?_ | refine blk_alloc ?_ _)); exact BK113.out) hb)
              have n1_ := aM_ (blk_below (g := gb115) (o := .cells #[.int .i64 ((rd_T53 l0_1 x22_1).f0),.int .i64 ((rd_T53 l0_1 x22_1).f1)] 53 (0,0)) (by (with_reducible repeat (first | refine blk_drewN ?_ _ | refine blk_drew ?_ | refine blk_alloc ?_ _)); exact BK115.out) hb)
              have n2_ := aM_ (below_step (by repeat (first | (with_reducible first | exact HB.out | apply bA_ | apply bB_ | apply bC_ | refine below_set ?_ GE113.out | refine below_set ?_ GE115.out) | exact HB.out)) hb)
              clear BK113
              clear BK115
              clear HB
              have BK113 := n0_
              have BK115 := n1_
              have HB := n2_
              clear n0_ n1_ n2_
              (try clear hb)
              (try clear hb2)
              (try clear hk)
              (try clear hi)
              refine hK.out _ _ ⟨(blk_cell BK113.out 0).trans rfl,(blk_cell BK113.out 1).trans rfl,(blk_cell BK115.out 0).trans rfl,(blk_cell BK115.out 1).trans rfl,((HB.out.cell (World.block_lt_of_cell? w _ hw117_0)).trans hw117_0),((HB.out.cell (World.block_lt_of_cell? w _ hw117_1)).trans hw117_1)⟩ (fun hHeld => ?_)
              clear hK K
              refine norm_ (a' := ?_) ?_ ?_
              rotate_left
              ·show Act.put _ (some 44) _ = _
               simp only [Act.put,uA_,uB_,uC_,i64_w,i32_w]
               rfl
              refine pure_ (i := 11) (N := some 45) (v := ?_) (a' := ?_) #[t_,t_,t_,t_,t_,t_,t_,t_,t_,t_,t_,t_,f_,f_] rfl rfl (any_of HT_.out (by kernel_rfl)) (fun _ _ _ h => h) (Or.inl ⟨by rfl,?_⟩) ?_ ?_
              rotate_left
              ·intro w'
               go_simp
               with_reducible rfl
              rotate_left
              ·simp only [Act.put,uA_,uB_,uC_,i64_w,i32_w]
               rfl
              refine pure_ (i := 12) (N := some 46) (v := ?_) (a' := ?_) #[t_,t_,t_,t_,t_,t_,t_,t_,t_,t_,t_,t_,t_,f_] rfl rfl (any_of HT_.out (by kernel_rfl)) (fun _ _ _ h => h) (Or.inl ⟨by rfl,?_⟩) ?_ ?_
              rotate_left
              ·intro w'
               go_simp
               with_reducible rfl
              rotate_left
              ·simp only [Act.put,uA_,uB_,uC_,i64_w,i32_w]
               rfl
              refine pure_ (i := 13) (N := some 33) (v := ?_) (a' := ?_) #[t_,t_,t_,t_,t_,t_,t_,t_,t_,t_,t_,t_,t_,t_] rfl rfl (any_of HT_.out (by kernel_rfl)) (fun _ _ _ h => h) (Or.inl ⟨by rfl,?_⟩) ?_ ?_
              rotate_left
              ·intro w'
               go_simp
               with_reducible rfl
              rotate_left
              ·simp only [Act.put,uA_,uB_,uC_,i64_w,i32_w]
               rfl
              refine done_ (done_of HT_.out (by kernel_rfl)) ?_
              try go_wp2
              go_ret
              exact ⟨by first | rfl | (simp [errW_none,errW_some] <;> rfl) | (simp only [← hji19]; first | rfl | (simp [errW_none,errW_some] <;> rfl)) | (simp [*,errW_none,errW_some] <;> rfl),by repeat (first | (with_reducible first | exact HB.out | apply bA_ | apply bB_ | apply bC_ | refine below_set ?_ GE113.out | refine below_set ?_ GE115.out) | exact HB.out)⟩
             ·rw [if_neg c23] at H
              have c23b0 : decide (0 ≤ t118) = false := decide_eq_false c23
              clear c23
              have H' := aM_ H
              clear H
              have p114 : 0 ≤ (x22_1 : Int) := of_decide_eq_true (by assumption)
              have q114 : x22_1 < (l0_1.length : Int) := of_decide_eq_true (by assumption)
              obtain ⟨ad114,e114,hx114_0,hx114_1⟩ := at_T53 HR0_1.out x22_1 p114 q114
              cases e114
              replace hx114_0 := (HB.out.cell (World.block_lt_of_cell? w _ hx114_0)).trans hx114_0
              replace hx114_1 := (HB.out.cell (World.block_lt_of_cell? w _ hx114_1)).trans hx114_1
              replace p114 := eq_true p114
              replace q114 := eq_true q114
              try go_wp2_with (first | ((with_reducible refine gate_dst (N := 4) rfl ?_); (try (refine gate_guard (by rfl) ?_; dsimp only)); refine box_event ?hg (N := 4) ?hd (cs := #[.int .i64 0,.int .i64 0]) (t := 53) ?hr ?_; (case hd => rfl); (case hg => rfl); (case hr => first | (go_simp; done) | (go_simp; rfl)); intro gb115 hg w31 hbox hb; have n0_ := aM_ (blk_below (g := gb113) (o := .cells #[.int .i64 a0_0,.slice (some ad114) l0_1.length c0_1] 24 (0,0)) (by (with_reducible repeat (first | refine blk_drewN ?_ _ | refine blk_drew ?_ | refine blk_alloc ?_ _)); exact BK113.out) hb); have n1_ := aM_ (below_step (by repeat (first | (with_reducible first | exact HB.out | apply bA_ | apply bB_ | apply bC_ | refine below_set ?_ GE113.out) | exact HB.out)) hb); have n2_ := aM_ (hbox); have n3_ := aM_ ((by rw [hg]; exact (below_size (by repeat (first | (with_reducible first | exact HB.out | apply bA_ | apply bB_ | apply bC_ | refine below_set ?_ GE113.out) | exact HB.out))) : w.heap.size ≤ gb115)); have n4_ := aM_ ((by rw [hg]; exact (below_size (by repeat (first | (with_reducible first | exact HB.out | apply bA_ | apply bB_ | apply bC_ | refine below_set ?_ GE113.out) | exact HB.out))) : w.heap.size ≤ gb115)); have n5_ := aM_ ((by rw [hg]; exact Nat.ne_of_lt (blk_lt (g := gb113) (o := .cells #[.int .i64 a0_0,.slice (some ad114) l0_1.length c0_1] 24 (0,0)) (by (with_reducible repeat (first | refine blk_drewN ?_ _ | refine blk_drew ?_ | refine blk_alloc ?_ _)); exact BK113.out)) : gb113 ≠ gb115)); have n6_ := aM_ ((by rw [hg]; exact Nat.ne_of_gt (blk_lt (g := gb113) (o := .cells #[.int .i64 a0_0,.slice (some ad114) l0_1.length c0_1] 24 (0,0)) (by (with_reducible repeat (first | refine blk_drewN ?_ _ | refine blk_drew ?_ | refine blk_alloc ?_ _)); exact BK113.out)) : gb115 ≠ gb113)); clear BK113; clear HB; have BK113 := n0_; have HB := n1_; have BK115 := n2_; have GW115 := n3_; have GE115 := n4_; have NB113_115 := n5_; have NB115_113 := n6_; clear n0_ n1_ n2_ n3_ n4_ n5_ n6_; clear hb hbox hg; have hnb32 := NB115_113.out; have hnc32 := NB113_115.out; have hcz33_0 : w31.cell? ⟨gb115,0,none⟩ = some (.int .i64 0) := (blk_cell BK115.out 0).trans rfl; have hcz33_1 : w31.cell? ⟨gb115,1,none⟩ = some (.int .i64 0) := (blk_cell BK115.out 1).trans rfl; have hfz33_0 := blk_frozen BK115.out 0; have hfz33_1 := blk_frozen BK115.out 1; have hcz34_0 : w31.cell? ⟨gb113,0,none⟩ = some (.int .i64 a0_0) := (blk_cell BK113.out 0).trans rfl; have hcz34_1 : w31.cell? ⟨gb113,1,none⟩ = some (.slice (some ad114) l0_1.length c0_1) := (blk_cell BK113.out 1).trans rfl; have hfz34_0 := blk_frozen BK113.out 0; have hfz34_1 := blk_frozen BK113.out 1) | ((with_reducible refine gate_callee (f := 65) rfl ?_); refine goesL_ (some 31) rfl rfl Tryd.func65 (by kernel_rfl) rfl #[.int .i64 a0_0,.agg #[.int .i64 ((rd_T53 l0_1 x22_1).f0),.int .i64 ((rd_T53 l0_1 x22_1).f1)]] rfl (by (try simp only [List.map_toArray,List.map_cons,List.map_nil]); first | done | rfl | (simp only [List.length_drop,List.length_take]; rfl)) ?_; (with_reducible refine (graph_within.calls a0_0 ((rd_T53 l0_1 x22_1).f0) ((rd_T53 l0_1 x22_1).f1) true _ A16.out).mono ?_); rintro e w35 ⟨rfl,hb⟩; refine ⟨_,rfl,?_⟩; have n0_ := aM_ (blk_below (g := gb113) (o := .cells #[.int .i64 a0_0,.slice (some ad114) l0_1.length c0_1] 24 (0,0)) (by (with_reducible repeat (first | refine blk_drewN ?_ _ | refine blk_drew ?_ | refine blk_alloc ?_ _)); refine blk_far ?_ NB113_115.out _; (with_reducible repeat (first | refine blk_drewN ?_ _ | refine blk_drew ?_ | refine blk_alloc ?_ _)); refine blk_far ?_ NB113_115.out _; (with_reducible repeat (first | refine blk_drewN ?_ _ | refine blk_drew ?_ | refine blk_alloc ?_ _)); exact BK113.out) hb); have n1_ := aM_ (blk_below (g := gb115) (o := .cells #[.int .i64 ((rd_T53 l0_1 x22_1).f0),.int .i64 ((rd_T53 l0_1 x22_1).f1)] 53 (0,0)) (by (with_reducible repeat (first | refine blk_drewN ?_ _ | refine blk_drew ?_ | refine blk_alloc ?_ _)); refine blk_put (cs := #[.int .i64 ((rd_T53 l0_1 x22_1).f0),.int .i64 0]) ?_ 1 _ rfl; (with_reducible repeat (first | refine blk_drewN ?_ _ | refine blk_drew ?_ | refine blk_alloc ?_ _)); refine blk_put (cs := #[.int .i64 0,.int .i64 0]) ?_ 0 _ rfl; (with_reducible repeat (first | refine blk_drewN ?_ _ | refine blk_drew ?_ | refine blk_alloc ?_ _)); exact BK115.out) hb); have n2_ := aM_ (below_step (by repeat (first | (with_reducible first | exact HB.out | apply bA_ | apply bB_ | apply bC_ | refine below_set ?_ GE113.out | refine below_set ?_ GE115.out) | exact HB.out)) hb); clear BK113; clear BK115; clear HB; have BK113 := n0_; have BK115 := n1_; have HB := n2_; clear n0_ n1_ n2_; (try clear hb); (try clear hb2); (try clear hk); (try clear hi)))
              have n0_ := aM_ (blk_drew BK113.out)
              have n1_ := aM_ (blk_drew BK115.out)
              have n2_ := aM_ (below_drew1 HB.out)
              clear BK113
              clear BK115
              clear HB
              have BK113 := n0_
              have BK115 := n1_
              have HB := n2_
              clear n0_ n1_ n2_
              have p117 : 0 ≤ ((ji19) : Int) := of_decide_eq_true (by assumption)
              have q117 : (ji19) < (l0_1.length : Int) := of_decide_eq_true (by assumption)
              obtain ⟨ad117,e117,hx117_0,hx117_1⟩ := at_T53 HR0_1.out (ji19) p117 q117
              have hw117_1 := hx117_1
              have hw117_0 := hx117_0
              obtain rfl : ad114 = ad117 := (by injection e117)
              replace hx117_0 := (HB.out.cell (World.block_lt_of_cell? w _ hx117_0)).trans hx117_0
              replace hx117_1 := (HB.out.cell (World.block_lt_of_cell? w _ hx117_1)).trans hx117_1
              replace p117 := eq_true p117
              replace q117 := eq_true q117
              refine start_ (n := 14) (S := fun w' => w'.cell? ⟨gb113,0,none⟩ = some (.int .i64 a0_0) ∧ w'.cell? ⟨gb113,1,none⟩ = some (.slice (some ad114) l0_1.length c0_1) ∧ w'.cell? ⟨gb115,0,none⟩ = some (.int .i64 ((rd_T53 l0_1 x22_1).f0)) ∧ w'.cell? ⟨gb115,1,none⟩ = some (.int .i64 ((rd_T53 l0_1 x22_1).f1)) ∧ w'.cell? (ad114.add (((ji19)).toNat * 2)) = some (.int .i64 ((rd_T53 l0_1 (ji19)).f0)) ∧ w'.cell? ⟨(ad114.add (((ji19)).toNat * 2)).block,(ad114.add (((ji19)).toNat * 2)).off + 1,none⟩ = some (.int .i64 ((rd_T53 l0_1 (ji19)).f1))) (ds := []) #[f_,f_,f_,f_,f_,f_,f_,f_,f_,f_,f_,f_,f_,f_] (by kernel_rfl) rfl rfl ⟨(blk_cell BK113.out 0).trans rfl,(blk_cell BK113.out 1).trans rfl,(blk_cell BK115.out 0).trans rfl,(blk_cell BK115.out 1).trans rfl,((HB.out.cell (World.block_lt_of_cell? w _ hw117_0)).trans hw117_0),((HB.out.cell (World.block_lt_of_cell? w _ hw117_1)).trans hw117_1)⟩ (fun hHeld => ?_); refine with_tabW graph_Check.tab10 graph_Check.bits10 (fun HT_ HW_ => ?_)
              generalize w35.drew = w36 at BK113 BK115 HB hx117_0 hx117_1 hHeld ⊢
              refine pure_ (i := 0) (N := some 34) (v := ?_) (a' := ?_) #[t_,f_,f_,f_,f_,f_,f_,f_,f_,f_,f_,f_,f_,f_] rfl rfl (any_of HT_.out (by kernel_rfl)) (fun _ _ _ h => h) (Or.inl ⟨by rfl,?_⟩) ?_ ?_
              rotate_left
              ·intro w'
               go_simp
               with_reducible rfl
              rotate_left
              ·simp only [Act.put,uA_,uB_,uC_,i64_w,i32_w]
               rfl
              refine pure_ (i := 1) (N := some 35) (v := ?_) (a' := ?_) #[t_,t_,f_,f_,f_,f_,f_,f_,f_,f_,f_,f_,f_,f_] rfl rfl (any_of HT_.out (by kernel_rfl)) (fun _ _ _ h => h) (Or.inl ⟨by rfl,?_⟩) ?_ ?_
              rotate_left
              ·intro w'
               go_simp
               with_reducible rfl
              rotate_left
              ·simp only [Act.put,uA_,uB_,uC_,i64_w,i32_w]
               rfl
              refine pure_ (i := 2) (N := some 36) (v := ?_) (a' := ?_) #[t_,t_,t_,f_,f_,f_,f_,f_,f_,f_,f_,f_,f_,f_] rfl rfl (any_of HT_.out (by kernel_rfl)) (fun _ _ _ h => h) (Or.inl ⟨by rfl,?_⟩) ?_ ?_
              rotate_left
              ·intro w'
               go_simp
               with_reducible rfl
              rotate_left
              ·simp only [Act.put,uA_,uB_,uC_,i64_w,i32_w]
               rfl
              refine pure_ (i := 3) (N := some 37) (v := ?_) (a' := ?_) #[t_,t_,t_,t_,f_,f_,f_,f_,f_,f_,f_,f_,f_,f_] rfl rfl (any_of HT_.out (by kernel_rfl)) (fun _ _ _ h => h) (Or.inl ⟨by rfl,?_⟩) ?_ ?_
              rotate_left
              ·intro w'
               go_simp
               with_reducible rfl
              rotate_left
              ·simp only [Act.put,uA_,uB_,uC_,i64_w,i32_w]
               rfl
              refine pure_ (i := 5) (N := some 39) (v := ?_) (a' := ?_) #[t_,t_,t_,t_,f_,t_,f_,f_,f_,f_,f_,f_,f_,f_] rfl rfl (any_of HT_.out (by kernel_rfl)) (fun _ _ _ h => h) (Or.inl ⟨by rfl,?_⟩) ?_ ?_
              rotate_left
              ·intro w'
               go_simp
               with_reducible rfl
              rotate_left
              ·simp only [Act.put,uA_,uB_,uC_,i64_w,i32_w]
               rfl
              refine pure_ (i := 6) (N := some 40) (v := ?_) (a' := ?_) #[t_,t_,t_,t_,f_,t_,t_,f_,f_,f_,f_,f_,f_,f_] rfl rfl (any_of HT_.out (by kernel_rfl)) (fun _ _ _ h => h) (Or.inl ⟨by rfl,?_⟩) ?_ ?_
              rotate_left
              ·intro w'
               go_simp
               with_reducible rfl
              rotate_left
              ·simp only [Act.put,uA_,uB_,uC_,i64_w,i32_w]
               rfl
              refine take_ (i := 4) (N := some 38) (v := ?_) (a' := ?_) #[t_,t_,t_,t_,t_,t_,t_,f_,f_,f_,f_,f_,f_,f_] rfl rfl (take_ofW HT_.out HW_.out (by kernel_rfl)) (fun _ _ _ h => h) (Or.inl ⟨by rfl,?_⟩) hHeld ?_ ?_
              rotate_left
              ·rintro w' ⟨s0,s1,s2,s3,s4,s5⟩
               go_simp
               with_reducible rfl
              rotate_left
              ·simp only [Act.put,uA_,uB_,uC_,i64_w,i32_w]
               rfl
              refine pure_ (i := 7) (N := some 41) (v := ?_) (a' := ?_) #[t_,t_,t_,t_,t_,t_,t_,t_,f_,f_,f_,f_,f_,f_] rfl rfl (any_of HT_.out (by kernel_rfl)) (fun _ _ _ h => h) (Or.inl ⟨by rfl,?_⟩) ?_ ?_
              rotate_left
              ·intro w'
               go_simp
               with_reducible rfl
              rotate_left
              ·simp only [Act.put,uA_,uB_,uC_,i64_w,i32_w]
               rfl
              refine take_ (i := 8) (N := some 42) (v := ?_) (a' := ?_) #[t_,t_,t_,t_,t_,t_,t_,t_,t_,f_,f_,f_,f_,f_] rfl rfl (take_ofW HT_.out HW_.out (by kernel_rfl)) (fun _ _ _ h => h) (Or.inl ⟨by rfl,?_⟩) hHeld ?_ ?_
              rotate_left
              ·rintro w' ⟨s0,s1,s2,s3,s4,s5⟩
               go_simp
               with_reducible rfl
              rotate_left
              ·simp only [Act.put,uA_,uB_,uC_,i64_w,i32_w]
               rfl
              refine take_ (i := 9) (N := some 43) (v := ?_) (a' := ?_) #[t_,t_,t_,t_,t_,t_,t_,t_,t_,t_,f_,f_,f_,f_] rfl rfl (take_ofW HT_.out HW_.out (by kernel_rfl)) (fun _ _ _ h => h) (Or.inl ⟨by rfl,?_⟩) hHeld ?_ ?_
              rotate_left
              ·rintro w' ⟨s0,s1,s2,s3,s4,s5⟩
               go_simp
               with_reducible rfl
              rotate_left
              ·simp only [Act.put,uA_,uB_,uC_,i64_w,i32_w]
               rfl
              refine one_ (i := 10) (N := some 44) #[t_,t_,t_,t_,t_,t_,t_,t_,t_,t_,t_,f_,f_,f_] rfl rfl (one_of HT_.out (by kernel_rfl)) (by decide) (fun K hK => ?_)
              refine goes_ Tryd.func68 (by kernel_rfl) rfl #[.agg #[.int .i64 ((rd_T53 l0_1 (ji19)).f0),.int .i64 ((rd_T53 l0_1 (ji19)).f1)],.agg #[.int .i64 ((rd_T53 l0_1 x22_1).f0),.int .i64 ((rd_T53 l0_1 x22_1).f1)]] (by rfl) rfl rfl (by (try simp only [List.map_toArray,List.map_cons,List.map_nil]); first | done | (simp only [hji19]; rfl) | rfl | (simp only [List.length_drop,List.length_take]; rfl)) ?_
              with_reducible refine (graph_compare.calls k1 ((rd_T53 l0_1 (ji19)).f0) ((rd_T53 l0_1 (ji19)).f1) ((rd_T53 l0_1 x22_1).f0) ((rd_T53 l0_1 x22_1).f1) t118 _ A22.out).mono ?_
              rintro e w37 ⟨rfl,hb⟩
              refine ⟨_,rfl,?_⟩
              have n0_ := aM_ (blk_below (g := gb113) (o := .cells #[.int .i64 a0_0,.slice (some ad114) l0_1.length c0_1] 24 (0,0)) (by (with_reducible repeat (first | refine blk_drewN ?_ _ | refine blk_drew ?_ | refine blk_alloc ?_ _)); exact BK113.out) hb)
              have n1_ := aM_ (blk_below (g := gb115) (o := .cells #[.int .i64 ((rd_T53 l0_1 x22_1).f0),.int .i64 ((rd_T53 l0_1 x22_1).f1)] 53 (0,0)) (by (with_reducible repeat (first | refine blk_drewN ?_ _ | refine blk_drew ?_ | refine blk_alloc ?_ _)); exact BK115.out) hb)
              have n2_ := aM_ (below_step (by repeat (first | (with_reducible first | exact HB.out | apply bA_ | apply bB_ | apply bC_ | refine below_set ?_ GE113.out | refine below_set ?_ GE115.out) | exact HB.out)) hb)
              clear BK113
              clear BK115
              clear HB
              have BK113 := n0_
              have BK115 := n1_
              have HB := n2_
              clear n0_ n1_ n2_
              (try clear hb)
              (try clear hb2)
              (try clear hk)
              (try clear hi)
              refine hK.out _ _ ⟨(blk_cell BK113.out 0).trans rfl,(blk_cell BK113.out 1).trans rfl,(blk_cell BK115.out 0).trans rfl,(blk_cell BK115.out 1).trans rfl,((HB.out.cell (World.block_lt_of_cell? w _ hw117_0)).trans hw117_0),((HB.out.cell (World.block_lt_of_cell? w _ hw117_1)).trans hw117_1)⟩ (fun hHeld => ?_)
              clear hK K
              refine norm_ (a' := ?_) ?_ ?_
              rotate_left
              ·show Act.put _ (some 44) _ = _
               simp only [Act.put,uA_,uB_,uC_,i64_w,i32_w]
               rfl
              refine pure_ (i := 11) (N := some 45) (v := ?_) (a' := ?_) #[t_,t_,t_,t_,t_,t_,t_,t_,t_,t_,t_,t_,f_,f_] rfl rfl (any_of HT_.out (by kernel_rfl)) (fun _ _ _ h => h) (Or.inl ⟨by rfl,?_⟩) ?_ ?_
              rotate_left
              ·intro w'
               go_simp
               with_reducible rfl
              rotate_left
              ·simp only [Act.put,uA_,uB_,uC_,i64_w,i32_w]
               rfl
              refine pure_ (i := 12) (N := some 46) (v := ?_) (a' := ?_) #[t_,t_,t_,t_,t_,t_,t_,t_,t_,t_,t_,t_,t_,f_] rfl rfl (any_of HT_.out (by kernel_rfl)) (fun _ _ _ h => h) (Or.inl ⟨by rfl,?_⟩) ?_ ?_
              rotate_left
              ·intro w'
               go_simp
               with_reducible rfl
              rotate_left
              ·simp only [Act.put,uA_,uB_,uC_,i64_w,i32_w]
               rfl
              refine pure_ (i := 13) (N := some 33) (v := ?_) (a' := ?_) #[t_,t_,t_,t_,t_,t_,t_,t_,t_,t_,t_,t_,t_,t_] rfl rfl (any_of HT_.out (by kernel_rfl)) (fun _ _ _ h => h) (Or.inl ⟨by rfl,?_⟩) ?_ ?_
              rotate_left
              ·intro w'
               go_simp
               with_reducible rfl
              rotate_left
              ·simp only [Act.put,uA_,uB_,uC_,i64_w,i32_w]
               rfl
              refine done_ (done_of HT_.out (by kernel_rfl)) ?_
              try go_wp2
              go_roundg k1
              case measure => have := HK1.out; omega
              case rel => exact ⟨(wrap64 (x22_1 + 1)),(by first | rfl | (simp; done) | (simp [*]; done)),H',⟨by have := HK1.out; omega⟩,⟨by (with_reducible repeat (first | refine blk_drewN ?_ _ | refine blk_drew ?_ | refine blk_alloc ?_ _)); exact BK113.out⟩,⟨by repeat (first | (with_reducible first | exact HB.out | apply bA_ | apply bB_ | apply bC_ | refine below_set ?_ GE113.out | refine below_set ?_ GE115.out) | exact HB.out)⟩⟩
            ·rw [if_neg c21] at H
             exact absurd H (by simp)
           ·rw [if_neg c20] at H
            exact absurd H (by simp)
          ·rw [if_neg c18] at H
           have c18b0 : decide (0 < x22_1) = false := decide_eq_false c18
           clear c18
           have H' := aM_ H
           clear H
           have p114 : 0 ≤ (x22_1 : Int) := of_decide_eq_true (by assumption)
           have q114 : x22_1 < (l0_1.length : Int) := of_decide_eq_true (by assumption)
           obtain ⟨ad114,e114,hx114_0,hx114_1⟩ := at_T53 HR0_1.out x22_1 p114 q114
           cases e114
           replace hx114_0 := (HB.out.cell (World.block_lt_of_cell? w _ hx114_0)).trans hx114_0
           replace hx114_1 := (HB.out.cell (World.block_lt_of_cell? w _ hx114_1)).trans hx114_1
           replace p114 := eq_true p114
           replace q114 := eq_true q114
           try go_wp2_with (first | ((with_reducible refine gate_dst (N := 4) rfl ?_); (try (refine gate_guard (by rfl) ?_; dsimp only)); refine box_event ?hg (N := 4) ?hd (cs := #[.int .i64 0,.int .i64 0]) (t := 53) ?hr ?_; (case hd => rfl); (case hg => rfl); (case hr => first | (go_simp; done) | (go_simp; rfl)); intro gb115 hg w38 hbox hb; have n0_ := aM_ (blk_below (g := gb113) (o := .cells #[.int .i64 a0_0,.slice (some ad114) l0_1.length c0_1] 24 (0,0)) (by (with_reducible repeat (first | refine blk_drewN ?_ _ | refine blk_drew ?_ | refine blk_alloc ?_ _)); exact BK113.out) hb); have n1_ := aM_ (below_step (by repeat (first | (with_reducible first | exact HB.out | apply bA_ | apply bB_ | apply bC_ | refine below_set ?_ GE113.out) | exact HB.out)) hb); have n2_ := aM_ (hbox); have n3_ := aM_ ((by rw [hg]; exact (below_size (by repeat (first | (with_reducible first | exact HB.out | apply bA_ | apply bB_ | apply bC_ | refine below_set ?_ GE113.out) | exact HB.out))) : w.heap.size ≤ gb115)); have n4_ := aM_ ((by rw [hg]; exact (below_size (by repeat (first | (with_reducible first | exact HB.out | apply bA_ | apply bB_ | apply bC_ | refine below_set ?_ GE113.out) | exact HB.out))) : w.heap.size ≤ gb115)); have n5_ := aM_ ((by rw [hg]; exact Nat.ne_of_lt (blk_lt (g := gb113) (o := .cells #[.int .i64 a0_0,.slice (some ad114) l0_1.length c0_1] 24 (0,0)) (by (with_reducible repeat (first | refine blk_drewN ?_ _ | refine blk_drew ?_ | refine blk_alloc ?_ _)); exact BK113.out)) : gb113 ≠ gb115)); have n6_ := aM_ ((by rw [hg]; exact Nat.ne_of_gt (blk_lt (g := gb113) (o := .cells #[.int .i64 a0_0,.slice (some ad114) l0_1.length c0_1] 24 (0,0)) (by (with_reducible repeat (first | refine blk_drewN ?_ _ | refine blk_drew ?_ | refine blk_alloc ?_ _)); exact BK113.out)) : gb115 ≠ gb113)); clear BK113; clear HB; have BK113 := n0_; have HB := n1_; have BK115 := n2_; have GW115 := n3_; have GE115 := n4_; have NB113_115 := n5_; have NB115_113 := n6_; clear n0_ n1_ n2_ n3_ n4_ n5_ n6_; clear hb hbox hg; have hnb39 := NB115_113.out; have hnc39 := NB113_115.out; have hcz40_0 : w38.cell? ⟨gb115,0,none⟩ = some (.int .i64 0) := (blk_cell BK115.out 0).trans rfl; have hcz40_1 : w38.cell? ⟨gb115,1,none⟩ = some (.int .i64 0) := (blk_cell BK115.out 1).trans rfl; have hfz40_0 := blk_frozen BK115.out 0; have hfz40_1 := blk_frozen BK115.out 1; have hcz41_0 : w38.cell? ⟨gb113,0,none⟩ = some (.int .i64 a0_0) := (blk_cell BK113.out 0).trans rfl; have hcz41_1 : w38.cell? ⟨gb113,1,none⟩ = some (.slice (some ad114) l0_1.length c0_1) := (blk_cell BK113.out 1).trans rfl; have hfz41_0 := blk_frozen BK113.out 0; have hfz41_1 := blk_frozen BK113.out 1) | ((with_reducible refine gate_callee (f := 65) rfl ?_); refine goesL_ (some 31) rfl rfl Tryd.func65 (by kernel_rfl) rfl #[.int .i64 a0_0,.agg #[.int .i64 ((rd_T53 l0_1 x22_1).f0),.int .i64 ((rd_T53 l0_1 x22_1).f1)]] rfl (by (try simp only [List.map_toArray,List.map_cons,List.map_nil]); first | done | rfl | (simp only [List.length_drop,List.length_take]; rfl)) ?_; (with_reducible refine (graph_within.calls a0_0 ((rd_T53 l0_1 x22_1).f0) ((rd_T53 l0_1 x22_1).f1) true _ A16.out).mono ?_); rintro e w42 ⟨rfl,hb⟩; refine ⟨_,rfl,?_⟩; have n0_ := aM_ (blk_below (g := gb113) (o := .cells #[.int .i64 a0_0,.slice (some ad114) l0_1.length c0_1] 24 (0,0)) (by (with_reducible repeat (first | refine blk_drewN ?_ _ | refine blk_drew ?_ | refine blk_alloc ?_ _)); refine blk_far ?_ NB113_115.out _; (with_reducible repeat (first | refine blk_drewN ?_ _ | refine blk_drew ?_ | refine blk_alloc ?_ _)); refine blk_far ?_ NB113_115.out _; (with_reducible repeat (first | refine blk_drewN ?_ _ | refine blk_drew ?_ | refine blk_alloc ?_ _)); exact BK113.out) hb); have n1_ := aM_ (blk_below (g := gb115) (o := .cells #[.int .i64 ((rd_T53 l0_1 x22_1).f0),.int .i64 ((rd_T53 l0_1 x22_1).f1)] 53 (0,0)) (by (with_reducible repeat (first | refine blk_drewN ?_ _ | refine blk_drew ?_ | refine blk_alloc ?_ _)); refine blk_put (cs := #[.int .i64 ((rd_T53 l0_1 x22_1).f0),.int .i64 0]) ?_ 1 _ rfl; (with_reducible repeat (first | refine blk_drewN ?_ _ | refine blk_drew ?_ | refine blk_alloc ?_ _)); refine blk_put (cs := #[.int .i64 0,.int .i64 0]) ?_ 0 _ rfl; (with_reducible repeat (first | refine blk_drewN ?_ _ | refine blk_drew ?_ | refine blk_alloc ?_ _)); exact BK115.out) hb); have n2_ := aM_ (below_step (by repeat (first | (with_reducible first | exact HB.out | apply bA_ | apply bB_ | apply bC_ | refine below_set ?_ GE113.out | refine below_set ?_ GE115.out) | exact HB.out)) hb); clear BK113; clear BK115; clear HB; have BK113 := n0_; have BK115 := n1_; have HB := n2_; clear n0_ n1_ n2_; (try clear hb); (try clear hb2); (try clear hk); (try clear hi)))
           have n0_ := aM_ (blk_drew BK113.out)
           have n1_ := aM_ (blk_drew BK115.out)
           have n2_ := aM_ (below_drew1 HB.out)
           clear BK113
           clear BK115
           clear HB
           have BK113 := n0_
           have BK115 := n1_
           have HB := n2_
           clear n0_ n1_ n2_
           refine start_ (n := 14) (S := fun w' => True) (ds := []) #[f_,f_,f_,f_,f_,f_,f_,f_,f_,f_,f_,f_,f_,f_] (by kernel_rfl) rfl rfl trivial (fun hHeld => ?_); refine with_tabW graph_Check.tab10 graph_Check.bits10 (fun HT_ HW_ => ?_)
           generalize w42.drew = w43 at BK113 BK115 HB hHeld ⊢
           refine pure_ (i := 0) (N := some 34) (v := ?_) (a' := ?_) #[t_,f_,f_,f_,f_,f_,f_,f_,f_,f_,f_,f_,f_,f_] rfl rfl (any_of HT_.out (by kernel_rfl)) (fun _ _ _ h => h) (Or.inl ⟨by rfl,?_⟩) ?_ ?_
           rotate_left
           ·intro w'
            go_simp
            with_reducible rfl
           rotate_left
           ·simp only [Act.put,uA_,uB_,uC_,i64_w,i32_w]
            rfl
           refine pure_ (i := 1) (N := some 35) (v := ?_) (a' := ?_) #[t_,t_,f_,f_,f_,f_,f_,f_,f_,f_,f_,f_,f_,f_] rfl rfl (any_of HT_.out (by kernel_rfl)) (fun _ _ _ h => h) (Or.inl ⟨by rfl,?_⟩) ?_ ?_
           rotate_left
           ·intro w'
            go_simp
            with_reducible rfl
           rotate_left
           ·simp only [Act.put,uA_,uB_,uC_,i64_w,i32_w]
            rfl
           refine pure_ (i := 2) (N := some 36) (v := ?_) (a' := ?_) #[t_,t_,t_,f_,f_,f_,f_,f_,f_,f_,f_,f_,f_,f_] rfl rfl (any_of HT_.out (by kernel_rfl)) (fun _ _ _ h => h) (Or.inl ⟨by rfl,?_⟩) ?_ ?_
           rotate_left
           ·intro w'
            go_simp
            with_reducible rfl
           rotate_left
           ·simp only [Act.put,uA_,uB_,uC_,i64_w,i32_w]
            rfl
           refine pure_ (i := 3) (N := some 37) (v := undef) (a' := ?_) #[t_,t_,t_,t_,f_,f_,f_,f_,f_,f_,f_,f_,f_,f_] rfl rfl (any_of HT_.out (by kernel_rfl)) (fun _ _ _ h => h) (Or.inr ⟨by rfl,rfl⟩) ?_ ?_
           rotate_left
           ·simp only [Act.put,uA_,uB_,uC_,i64_w,i32_w]
            rfl
           refine pure_ (i := 4) (N := some 38) (v := undef) (a' := ?_) #[t_,t_,t_,t_,t_,f_,f_,f_,f_,f_,f_,f_,f_,f_] rfl rfl (any_of HT_.out (by kernel_rfl)) (fun _ _ _ h => h) (Or.inr ⟨by rfl,rfl⟩) ?_ ?_
           rotate_left
           ·simp only [Act.put,uA_,uB_,uC_,i64_w,i32_w]
            rfl
           refine pure_ (i := 5) (N := some 39) (v := undef) (a' := ?_) #[t_,t_,t_,t_,t_,t_,f_,f_,f_,f_,f_,f_,f_,f_] rfl rfl (any_of HT_.out (by kernel_rfl)) (fun _ _ _ h => h) (Or.inr ⟨by rfl,rfl⟩) ?_ ?_
           rotate_left
           ·simp only [Act.put,uA_,uB_,uC_,i64_w,i32_w]
            rfl
           refine pure_ (i := 6) (N := some 40) (v := undef) (a' := ?_) #[t_,t_,t_,t_,t_,t_,t_,f_,f_,f_,f_,f_,f_,f_] rfl rfl (any_of HT_.out (by kernel_rfl)) (fun _ _ _ h => h) (Or.inr ⟨by rfl,rfl⟩) ?_ ?_
           rotate_left
           ·simp only [Act.put,uA_,uB_,uC_,i64_w,i32_w]
            rfl
           refine pure_ (i := 7) (N := some 41) (v := undef) (a' := ?_) #[t_,t_,t_,t_,t_,t_,t_,t_,f_,f_,f_,f_,f_,f_] rfl rfl (any_of HT_.out (by kernel_rfl)) (fun _ _ _ h => h) (Or.inr ⟨by rfl,rfl⟩) ?_ ?_
           rotate_left
           ·simp only [Act.put,uA_,uB_,uC_,i64_w,i32_w]
            rfl
           refine pure_ (i := 8) (N := some 42) (v := undef) (a' := ?_) #[t_,t_,t_,t_,t_,t_,t_,t_,t_,f_,f_,f_,f_,f_] rfl rfl (any_of HT_.out (by kernel_rfl)) (fun _ _ _ h => h) (Or.inr ⟨by rfl,rfl⟩) ?_ ?_
           rotate_left
           ·simp only [Act.put,uA_,uB_,uC_,i64_w,i32_w]
            rfl
           refine pure_ (i := 9) (N := some 43) (v := undef) (a' := ?_) #[t_,t_,t_,t_,t_,t_,t_,t_,t_,t_,f_,f_,f_,f_] rfl rfl (any_of HT_.out (by kernel_rfl)) (fun _ _ _ h => h) (Or.inr ⟨by rfl,rfl⟩) ?_ ?_
           rotate_left
           ·simp only [Act.put,uA_,uB_,uC_,i64_w,i32_w]
            rfl
           refine pure_ (i := 10) (N := some 44) (v := undef) (a' := ?_) #[t_,t_,t_,t_,t_,t_,t_,t_,t_,t_,t_,f_,f_,f_] rfl rfl (any_of HT_.out (by kernel_rfl)) (fun _ _ _ h => h) (Or.inr ⟨by rfl,rfl⟩) ?_ ?_
           rotate_left
           ·simp only [Act.put,uA_,uB_,uC_,i64_w,i32_w]
            rfl
           refine pure_ (i := 11) (N := some 45) (v := undef) (a' := ?_) #[t_,t_,t_,t_,t_,t_,t_,t_,t_,t_,t_,t_,f_,f_] rfl rfl (any_of HT_.out (by kernel_rfl)) (fun _ _ _ h => h) (Or.inr ⟨by rfl,rfl⟩) ?_ ?_
           rotate_left
           ·simp only [Act.put,uA_,uB_,uC_,i64_w,i32_w]
            rfl
           refine pure_ (i := 12) (N := some 46) (v := ?_) (a' := ?_) #[t_,t_,t_,t_,t_,t_,t_,t_,t_,t_,t_,t_,t_,f_] rfl rfl (any_of HT_.out (by kernel_rfl)) (fun _ _ _ h => h) (Or.inl ⟨by rfl,?_⟩) ?_ ?_
           rotate_left
           ·intro w'
            go_simp
            with_reducible rfl
           rotate_left
           ·simp only [Act.put,uA_,uB_,uC_,i64_w,i32_w]
            rfl
           refine pure_ (i := 13) (N := some 33) (v := ?_) (a' := ?_) #[t_,t_,t_,t_,t_,t_,t_,t_,t_,t_,t_,t_,t_,t_] rfl rfl (any_of HT_.out (by kernel_rfl)) (fun _ _ _ h => h) (Or.inl ⟨by rfl,?_⟩) ?_ ?_
           rotate_left
           ·intro w'
            go_simp
            with_reducible rfl
           rotate_left
           ·simp only [Act.put,uA_,uB_,uC_,i64_w,i32_w]
            rfl
           refine done_ (done_of HT_.out (by kernel_rfl)) ?_
           try go_wp2
           go_roundg k1
           case measure => have := HK1.out; omega
           case rel => exact ⟨(wrap64 (x22_1 + 1)),(by first | rfl | (simp; done) | (simp [*]; done)),H',⟨by have := HK1.out; omega⟩,⟨by (with_reducible repeat (first | refine blk_drewN ?_ _ | refine blk_drew ?_ | refine blk_alloc ?_ _)); exact BK113.out⟩,⟨by repeat (first | (with_reducible first | exact HB.out | apply bA_ | apply bB_ | apply bC_ | refine below_set ?_ GE113.out | refine below_set ?_ GE115.out) | exact HB.out)⟩⟩
         ·replace c17 := Bool.eq_false_iff.mpr c17
          subst c17
          have H1 : (some 4) = some r := by rw [if_neg (show ¬ (false = true) by decide)] at H; exact H
          clear H
          have H := H1
          clear H1
          obtain rfl := Option.some.inj H
          have p114 : 0 ≤ (x22_1 : Int) := of_decide_eq_true (by assumption)
          have q114 : x22_1 < (l0_1.length : Int) := of_decide_eq_true (by assumption)
          obtain ⟨ad114,e114,hx114_0,hx114_1⟩ := at_T53 HR0_1.out x22_1 p114 q114
          cases e114
          replace hx114_0 := (HB.out.cell (World.block_lt_of_cell? w _ hx114_0)).trans hx114_0
          replace hx114_1 := (HB.out.cell (World.block_lt_of_cell? w _ hx114_1)).trans hx114_1
          replace p114 := eq_true p114
          replace q114 := eq_true q114
          go_wp2_with (first | ((with_reducible refine gate_dst (N := 4) rfl ?_); (try (refine gate_guard (by rfl) ?_; dsimp only)); refine box_event ?hg (N := 4) ?hd (cs := #[.int .i64 0,.int .i64 0]) (t := 53) ?hr ?_; (case hd => rfl); (case hg => rfl); (case hr => first | (go_simp; done) | (go_simp; rfl)); intro gb115 hg w44 hbox hb; have n0_ := aM_ (blk_below (g := gb113) (o := .cells #[.int .i64 a0_0,.slice (some ad114) l0_1.length c0_1] 24 (0,0)) (by (with_reducible repeat (first | refine blk_drewN ?_ _ | refine blk_drew ?_ | refine blk_alloc ?_ _)); exact BK113.out) hb); have n1_ := aM_ (below_step (by repeat (first | (with_reducible first | exact HB.out | apply bA_ | apply bB_ | apply bC_ | refine below_set ?_ GE113.out) | exact HB.out)) hb); have n2_ := aM_ (hbox); have n3_ := aM_ ((by rw [hg]; exact (below_size (by repeat (first | (with_reducible first | exact HB.out | apply bA_ | apply bB_ | apply bC_ | refine below_set ?_ GE113.out) | exact HB.out))) : w.heap.size ≤ gb115)); have n4_ := aM_ ((by rw [hg]; exact (below_size (by repeat (first | (with_reducible first | exact HB.out | apply bA_ | apply bB_ | apply bC_ | refine below_set ?_ GE113.out) | exact HB.out))) : w.heap.size ≤ gb115)); have n5_ := aM_ ((by rw [hg]; exact Nat.ne_of_lt (blk_lt (g := gb113) (o := .cells #[.int .i64 a0_0,.slice (some ad114) l0_1.length c0_1] 24 (0,0)) (by (with_reducible repeat (first | refine blk_drewN ?_ _ | refine blk_drew ?_ | refine blk_alloc ?_ _)); exact BK113.out)) : gb113 ≠ gb115)); have n6_ := aM_ ((by rw [hg]; exact Nat.ne_of_gt (blk_lt (g := gb113) (o := .cells #[.int .i64 a0_0,.slice (some ad114) l0_1.length c0_1] 24 (0,0)) (by (with_reducible repeat (first | refine blk_drewN ?_ _ | refine blk_drew ?_ | refine blk_alloc ?_ _)); exact BK113.out)) : gb115 ≠ gb113)); clear BK113; clear HB; have BK113 := n0_; have HB := n1_; have BK115 := n2_; have GW115 := n3_; have GE115 := n4_; have NB113_115 := n5_; have NB115_113 := n6_; clear n0_ n1_ n2_ n3_ n4_ n5_ n6_; clear hb hbox hg; have hnb45 := NB115_113.out; have hnc45 := NB113_115.out; have hcz46_0 : w44.cell? ⟨gb115,0,none⟩ = some (.int .i64 0) := (blk_cell BK115.out 0).trans rfl; have hcz46_1 : w44.cell? ⟨gb115,1,none⟩ = some (.int .i64 0) := (blk_cell BK115.out 1).trans rfl; have hfz46_0 := blk_frozen BK115.out 0; have hfz46_1 := blk_frozen BK115.out 1; have hcz47_0 : w44.cell? ⟨gb113,0,none⟩ = some (.int .i64 a0_0) := (blk_cell BK113.out 0).trans rfl; have hcz47_1 : w44.cell? ⟨gb113,1,none⟩ = some (.slice (some ad114) l0_1.length c0_1) := (blk_cell BK113.out 1).trans rfl; have hfz47_0 := blk_frozen BK113.out 0; have hfz47_1 := blk_frozen BK113.out 1) | ((with_reducible refine gate_callee (f := 65) rfl ?_); refine goesL_ (some 31) rfl rfl Tryd.func65 (by kernel_rfl) rfl #[.int .i64 a0_0,.agg #[.int .i64 ((rd_T53 l0_1 x22_1).f0),.int .i64 ((rd_T53 l0_1 x22_1).f1)]] rfl (by (try simp only [List.map_toArray,List.map_cons,List.map_nil]); first | done | rfl | (simp only [List.length_drop,List.length_take]; rfl)) ?_; (with_reducible refine (graph_within.calls a0_0 ((rd_T53 l0_1 x22_1).f0) ((rd_T53 l0_1 x22_1).f1) false _ A16.out).mono ?_); rintro e w48 ⟨rfl,hb⟩; refine ⟨_,rfl,?_⟩; have n0_ := aM_ (blk_below (g := gb113) (o := .cells #[.int .i64 a0_0,.slice (some ad114) l0_1.length c0_1] 24 (0,0)) (by (with_reducible repeat (first | refine blk_drewN ?_ _ | refine blk_drew ?_ | refine blk_alloc ?_ _)); refine blk_far ?_ NB113_115.out _; (with_reducible repeat (first | refine blk_drewN ?_ _ | refine blk_drew ?_ | refine blk_alloc ?_ _)); refine blk_far ?_ NB113_115.out _; (with_reducible repeat (first | refine blk_drewN ?_ _ | refine blk_drew ?_ | refine blk_alloc ?_ _)); exact BK113.out) hb); have n1_ := aM_ (blk_below (g := gb115) (o := .cells #[.int .i64 ((rd_T53 l0_1 x22_1).f0),.int .i64 ((rd_T53 l0_1 x22_1).f1)] 53 (0,0)) (by (with_reducible repeat (first | refine blk_drewN ?_ _ | refine blk_drew ?_ | refine blk_alloc ?_ _)); refine blk_put (cs := #[.int .i64 ((rd_T53 l0_1 x22_1).f0),.int .i64 0]) ?_ 1 _ rfl; (with_reducible repeat (first | refine blk_drewN ?_ _ | refine blk_drew ?_ | refine blk_alloc ?_ _)); refine blk_put (cs := #[.int .i64 0,.int .i64 0]) ?_ 0 _ rfl; (with_reducible repeat (first | refine blk_drewN ?_ _ | refine blk_drew ?_ | refine blk_alloc ?_ _)); exact BK115.out) hb); have n2_ := aM_ (below_step (by repeat (first | (with_reducible first | exact HB.out | apply bA_ | apply bB_ | apply bC_ | refine below_set ?_ GE113.out | refine below_set ?_ GE115.out) | exact HB.out)) hb); clear BK113; clear BK115; clear HB; have BK113 := n0_; have BK115 := n1_; have HB := n2_; clear n0_ n1_ n2_; (try clear hb); (try clear hb2); (try clear hk); (try clear hi)))
          go_ret
          exact ⟨by first | rfl | (simp [errW_none,errW_some] <;> rfl) | (simp [*,errW_none,errW_some] <;> rfl),by repeat (first | (with_reducible first | exact HB.out | apply bA_ | apply bB_ | apply bC_ | refine below_set ?_ GE113.out | refine below_set ?_ GE115.out) | exact HB.out)⟩
        ·rw [if_neg c15] at H
         exact absurd H (by simp)
       ·rw [if_neg c14] at H
        exact absurd H (by simp)
      ·rw [if_neg c13] at H
       have c13b0 : decide (x22_1 < (l0_1.length : Int)) = false := decide_eq_false c13
       clear c13
       obtain rfl := Option.some.inj H
       go_wp2
       go_ret
       exact ⟨by first | rfl | (simp [errW_none,errW_some] <;> rfl) | (simp [*,errW_none,errW_some] <;> rfl),by repeat (first | (with_reducible first | exact HB.out | apply bA_ | apply bB_ | apply bC_ | refine below_set ?_ GE113.out) | exact HB.out)⟩
def graph_usable.f (k : Nat) (a0_0 : Int) (l0_1 : List (S53)) (a1 : Int) : Option (Bool) := if a1 ≥ 0 then (if a1 < a0_0 then ((graph_Check.f k a0_0 l0_1).bind fun t120 => (some (t120 == 0))) else (some false)) else (some false)
set_option maxHeartbeats 8000000 in
set_option maxRecDepth 100000 in
theorem graph_usable.calls (k : Nat) (a0_0 : Int) (A0_1 : Option Addr) (c0_1 : Nat) (l0_1 : List (S53)) (a1 : Int) (r : Bool) (w : World) (hr0_1 : Kd.C k53 w A0_1 l0_1.length l0_1) (hc0_1 : l0_1.length ≤ c0_1) (h : graph_usable.f k a0_0 l0_1 a1 = some r) :
  Calls Tryd.prog 75 #[.agg #[.int .i64 a0_0,.slice A0_1 l0_1.length c0_1],.int .i64 a1] w fun e w' => e = .returned (.bool r) ∧ Below w.heap.size w w' := by
 have hu24 := Tryd.underlying24
 have HR0_1 := aM_ hr0_1
 have HC0_1 := aM_ hc0_1
 clear hr0_1 hc0_1
 have HB := aM_ (Below.refl w.heap.size w)
 have H : (if a1 ≥ 0 then (if a1 < a0_0 then ((graph_Check.f k a0_0 l0_1).bind fun t120 => (some (t120 == 0))) else (some false)) else (some false)) = some r := h
 clear h
 by_cases c3 : a1 ≥ 0
 ·rw [if_pos c3] at H
  have c3b0 : decide (0 ≤ a1) = true := decide_eq_true c3
  clear c3
  by_cases c4 : a1 < a0_0
  ·rw [if_pos c4] at H
   have c4b0 : decide (a1 < a0_0) = true := decide_eq_true c4
   clear c4
   replace H := Option.bind_eq_some_iff.mp H
   obtain ⟨t120,A50,H⟩ := H
   replace H : (some (t120 == 0)) = some r := H
   have A5 := aM_ A50
   clear A50
   obtain rfl := Option.some.inj H
   go_enter Tryd.func75,Tryd.ntmps75
   go_wp2_with (first | ((with_reducible refine gate_dst (N := 2) rfl ?_); refine box_event ?hg (N := 2) ?hd (cs := #[.int .i64 a0_0,.slice A0_1 l0_1.length c0_1]) (t := 24) ?hr ?_; (case hd => rfl); (case hg => rfl); (case hr => first | (go_simp; done) | (go_simp; rfl)); intro gb119 hg w6 hbox hb; have n0_ := aM_ (below_step (by repeat (first | (with_reducible first | exact HB.out | apply bA_ | apply bB_ | apply bC_) | exact HB.out)) hb); have n1_ := aM_ (hbox); have n2_ := aM_ ((by rw [hg]; exact (below_size (by repeat (first | (with_reducible first | exact HB.out | apply bA_ | apply bB_ | apply bC_) | exact HB.out))) : w.heap.size ≤ gb119)); have n3_ := aM_ ((by rw [hg]; exact (below_size (by repeat (first | (with_reducible first | exact HB.out | apply bA_ | apply bB_ | apply bC_) | exact HB.out))) : w.heap.size ≤ gb119)); clear HB; have HB := n0_; have BK119 := n1_; have GW119 := n2_; have GE119 := n3_; clear n0_ n1_ n2_ n3_; clear hb hbox hg; have hcz7_0 : w6.cell? ⟨gb119,0,none⟩ = some (.int .i64 a0_0) := (blk_cell BK119.out 0).trans rfl; have hcz7_1 : w6.cell? ⟨gb119,1,none⟩ = some (.slice A0_1 l0_1.length c0_1) := (blk_cell BK119.out 1).trans rfl; have hfz7_0 := blk_frozen BK119.out 0; have hfz7_1 := blk_frozen BK119.out 1) | (go_at_call 34; (with_reducible refine (graph_Check.calls k a0_0 _ _ l0_1 t120 _ ?side1 ?side2 A5.out).mono ?_); (case side1 => repeat (first | exact (Kd.C_below HR0_1.out HB.out) | (with_reducible refine Kd.C_alloc ?_ _) | (with_reducible refine Kd.C_drewN ?_ _) | (with_reducible refine Kd.C_drew ?_))); (case side2 => exact HC0_1.out); rintro e w8 ⟨rfl,hb⟩; have n0_ := aM_ (blk_below (g := gb119) (o := .cells #[.int .i64 a0_0,.slice A0_1 l0_1.length c0_1] 24 (0,0)) (by (with_reducible repeat (first | refine blk_drewN ?_ _ | refine blk_drew ?_ | refine blk_alloc ?_ _)); exact BK119.out) hb); have n1_ := aM_ (below_step (by repeat (first | (with_reducible first | exact HB.out | apply bA_ | apply bB_ | apply bC_ | refine below_set ?_ GE119.out) | exact HB.out)) hb); clear BK119; clear HB; have BK119 := n0_; have HB := n1_; clear n0_ n1_; (try clear hb); (try clear hb2); (try clear hk); (try clear hi)))
   go_ret
   exact ⟨by first | rfl | (simp [errW_none,errW_some] <;> rfl) | (simp [*,errW_none,errW_some] <;> rfl),by repeat (first | (with_reducible first | exact HB.out | apply bA_ | apply bB_ | apply bC_ | refine below_set ?_ GE119.out) | exact HB.out)⟩
  ·rw [if_neg c4] at H
   have c4b0 : decide (a1 < a0_0) = false := decide_eq_false c4
   clear c4
   obtain rfl := Option.some.inj H
   go_enter Tryd.func75,Tryd.ntmps75
   go_wp2_with (first | ((with_reducible refine gate_dst (N := 2) rfl ?_); refine box_event ?hg (N := 2) ?hd (cs := #[.int .i64 a0_0,.slice A0_1 l0_1.length c0_1]) (t := 24) ?hr ?_; (case hd => rfl); (case hg => rfl); (case hr => first | (go_simp; done) | (go_simp; rfl)); intro gb119 hg w9 hbox hb; have n0_ := aM_ (below_step (by repeat (first | (with_reducible first | exact HB.out | apply bA_ | apply bB_ | apply bC_) | exact HB.out)) hb); have n1_ := aM_ (hbox); have n2_ := aM_ ((by rw [hg]; exact (below_size (by repeat (first | (with_reducible first | exact HB.out | apply bA_ | apply bB_ | apply bC_) | exact HB.out))) : w.heap.size ≤ gb119)); have n3_ := aM_ ((by rw [hg]; exact (below_size (by repeat (first | (with_reducible first | exact HB.out | apply bA_ | apply bB_ | apply bC_) | exact HB.out))) : w.heap.size ≤ gb119)); clear HB; have HB := n0_; have BK119 := n1_; have GW119 := n2_; have GE119 := n3_; clear n0_ n1_ n2_ n3_; clear hb hbox hg; have hcz10_0 : w9.cell? ⟨gb119,0,none⟩ = some (.int .i64 a0_0) := (blk_cell BK119.out 0).trans rfl; have hcz10_1 : w9.cell? ⟨gb119,1,none⟩ = some (.slice A0_1 l0_1.length c0_1) := (blk_cell BK119.out 1).trans rfl; have hfz10_0 := blk_frozen BK119.out 0; have hfz10_1 := blk_frozen BK119.out 1))
   go_ret
   exact ⟨by first | rfl | (simp [errW_none,errW_some] <;> rfl) | (simp [*,errW_none,errW_some] <;> rfl),by repeat (first | (with_reducible first | exact HB.out | apply bA_ | apply bB_ | apply bC_ | refine below_set ?_ GE119.out) | exact HB.out)⟩
 ·rw [if_neg c3] at H
  have c3b0 : decide (0 ≤ a1) = false := decide_eq_false c3
  clear c3
  obtain rfl := Option.some.inj H
  go_enter Tryd.func75,Tryd.ntmps75
  go_wp2_with (first | ((with_reducible refine gate_dst (N := 2) rfl ?_); refine box_event ?hg (N := 2) ?hd (cs := #[.int .i64 a0_0,.slice A0_1 l0_1.length c0_1]) (t := 24) ?hr ?_; (case hd => rfl); (case hg => rfl); (case hr => first | (go_simp; done) | (go_simp; rfl)); intro gb119 hg w11 hbox hb; have n0_ := aM_ (below_step (by repeat (first | (with_reducible first | exact HB.out | apply bA_ | apply bB_ | apply bC_) | exact HB.out)) hb); have n1_ := aM_ (hbox); have n2_ := aM_ ((by rw [hg]; exact (below_size (by repeat (first | (with_reducible first | exact HB.out | apply bA_ | apply bB_ | apply bC_) | exact HB.out))) : w.heap.size ≤ gb119)); have n3_ := aM_ ((by rw [hg]; exact (below_size (by repeat (first | (with_reducible first | exact HB.out | apply bA_ | apply bB_ | apply bC_) | exact HB.out))) : w.heap.size ≤ gb119)); clear HB; have HB := n0_; have BK119 := n1_; have GW119 := n2_; have GE119 := n3_; clear n0_ n1_ n2_ n3_; clear hb hbox hg))
  go_ret
  exact ⟨by first | rfl | (simp [errW_none,errW_some] <;> rfl) | (simp [*,errW_none,errW_some] <;> rfl),by repeat (first | (with_reducible first | exact HB.out | apply bA_ | apply bB_ | apply bC_ | refine below_set ?_ GE119.out) | exact HB.out)⟩
def bits_Has.f (l0 : List Int) (a1 : Int) : Option (Bool) := if a1 ≥ 0 then (if (wrap64 (Int.tdiv a1 64)) < (l0.length : Int) then (if 0 ≤ (wrap64 (Int.tdiv a1 64)) then (if 0 ≤ (Int.tmod a1 64) then (some ((Go.bits .and .u64 (shr .u64 (rd l0 (wrap64 (Int.tdiv a1 64))) (Int.tmod a1 64)) 1) == 1)) else (none)) else (none)) else (some false)) else (some false)
set_option maxHeartbeats 8000000 in
set_option maxRecDepth 100000 in
theorem bits_Has.calls (A0 : Option Addr) (c0 : Nat) (l0 : List Int) (a1 : Int) (r : Bool) (w : World) (hr0 : Kd.C (Kd.int .u64) w A0 l0.length l0) (hc0 : l0.length ≤ c0) (h : bits_Has.f l0 a1 = some r) :
  Calls Tryd.prog 72 #[.slice A0 l0.length c0,.int .i64 a1] w fun e w' => e = .returned (.bool r) ∧ Drawn0 w w' := by
 have HR0 := aM_ hr0
 have HC0 := aM_ hc0
 clear hr0 hc0
 have H : (if a1 ≥ 0 then (if (wrap64 (Int.tdiv a1 64)) < (l0.length : Int) then (if 0 ≤ (wrap64 (Int.tdiv a1 64)) then (if 0 ≤ (Int.tmod a1 64) then (some ((Go.bits .and .u64 (shr .u64 (rd l0 (wrap64 (Int.tdiv a1 64))) (Int.tmod a1 64)) 1) == 1)) else (none)) else (none)) else (some false)) else (some false)) = some r := h
 clear h
 by_cases c3 : a1 ≥ 0
 ·rw [if_pos c3] at H
  have c3b0 : decide (0 ≤ a1) = true := decide_eq_true c3
  clear c3
  by_cases c4 : (wrap64 (Int.tdiv a1 64)) < (l0.length : Int)
  ·rw [if_pos c4] at H
   have c4b0 : decide ((wrap64 (Int.tdiv a1 64)) < (l0.length : Int)) = true := decide_eq_true c4
   clear c4
   obtain ⟨ji5,hji5⟩ : ∃ j_ : Int,(wrap64 (Int.tdiv a1 64)) = j_ := ⟨_,rfl⟩
   replace H : (if 0 ≤ (ji5) then (if 0 ≤ (Int.tmod a1 64) then (some ((Go.bits .and .u64 (shr .u64 (rd l0 (ji5)) (Int.tmod a1 64)) 1) == 1)) else (none)) else (none)) = some r := by first | (rw [hji5] at H; exact H) | (simp only [hji5] at H ⊢; exact H)
   (try rw [hji5] at c4b0)
   have hji5w : (IntKind.i64.wrap (Int.tdiv a1 64)) = ji5 := (i64_w _).trans hji5
   by_cases c6 : 0 ≤ (ji5)
   ·rw [if_pos c6] at H
    have c6b0 : decide (0 ≤ (ji5)) = true := decide_eq_true c6
    clear c6
    obtain ⟨ji7,hji7⟩ : ∃ j_ : Int,(Int.tmod a1 64) = j_ := ⟨_,rfl⟩
    replace H : (if 0 ≤ (ji7) then (some ((Go.bits .and .u64 (shr .u64 (rd l0 (ji5)) (ji7)) 1) == 1)) else (none)) = some r := by first | (rw [hji7] at H; exact H) | (simp only [hji7] at H ⊢; exact H)
    by_cases c8 : 0 ≤ (ji7)
    ·rw [if_pos c8] at H
     have c8b0 := eq_true c8
     have c8b1 : decide (0 ≤ (ji7)) = true := decide_eq_true c8
     clear c8
     obtain ⟨ji9,hji9⟩ : ∃ j_ : Int,(shr .u64 (rd l0 (ji5)) (ji7)) = j_ := ⟨_,rfl⟩
     replace H : (some ((Go.bits .and .u64 (ji9) 1) == 1)) = some r := by first | (rw [hji9] at H; exact H) | (simp only [hji9] at H ⊢; exact H)
     have hji9_ : ((rd l0 (ji5)) / 2 ^ min (ji7).toNat 64) = ji9 := hji9
     have hji9z : (ji7) ≤ 64 → ((rd l0 (ji5)) / 2 ^ (ji7).toNat) = ji9 := shr_small hji9
     obtain rfl := Option.some.inj H
     have p121 : 0 ≤ ((ji5) : Int) := of_decide_eq_true (by assumption)
     have q121 : (ji5) < (l0.length : Int) := of_decide_eq_true (by assumption)
     obtain ⟨ad121,e121,hx121_0⟩ := Kd.at_int HR0.out (ji5) p121 q121
     cases e121
     replace p121 := eq_true p121
     replace q121 := eq_true q121
     go_enter Tryd.func72,Tryd.ntmps72
     go_wp2
     go_ret
     exact ⟨by first | rfl | (simp; done) | (simp only [← hji5,← hji7,← hji9] <;> (first | rfl | simp)) | (simp [*]; done),by repeat (first | exact Drawn0.refl _ | apply Drawn0.step)⟩
    ·rw [if_neg c8] at H
     exact absurd H (by simp)
   ·rw [if_neg c6] at H
    exact absurd H (by simp)
  ·rw [if_neg c4] at H
   have c4b0 : decide ((wrap64 (Int.tdiv a1 64)) < (l0.length : Int)) = false := decide_eq_false c4
   clear c4
   obtain rfl := Option.some.inj H
   go_enter Tryd.func72,Tryd.ntmps72
   go_wp2
   go_ret
   exact ⟨by first | rfl | (simp; done) | (simp [*]; done),by repeat (first | exact Drawn0.refl _ | apply Drawn0.step)⟩
 ·rw [if_neg c3] at H
  have c3b0 : decide (0 ≤ a1) = false := decide_eq_false c3
  clear c3
  obtain rfl := Option.some.inj H
  go_enter Tryd.func72,Tryd.ntmps72
  go_wp2
  go_ret
  exact ⟨by first | rfl | (simp; done) | (simp [*]; done),by repeat (first | exact Drawn0.refl _ | apply Drawn0.step)⟩
end Go.Proofs.YtfgbkklhjocmjaaDoor.Xq
namespace Go.Proofs.YtfgbkklhjocmjaaDoor.Xq
open Go.RowKit Go.Proofs.YtfgbkklhjocmjaaDoorW.PrintWords Go.Proofs.YtfgbkklhjocmjaaDoorW.PrintLast Go.Proofs.YtfgbkklhjocmjaaDoor.Gv
set_option maxRecDepth 100000 in
theorem bsf_calls (tv0 tv1 : Int) (cft : S53 → Int) (g : Nat) (cb : Array Value) (A : Option Addr) (c : Nat) (l : List S53) (w : World)
    (eg : ∀ args w, (callFunc g args).run Tryd.prog w = .ok (.enter g args) w)
    (hcmp : ∀ W x, Below w.heap.size w W → Calls Tryd.prog g (#[.agg #[.int .i64 x.f0, .int .i64 x.f1], .agg #[.int .i64 tv0, .int .i64 tv1]] ++ cb) W fun e w' => e = .returned (.int .i64 (cft x)) ∧ Below W.heap.size W w')
    (hC : Kd.C k53 w A l.length l) (hsz : l.length < 4611686018427387904) (hmono : ∀ a b, a ≤ b → b < l.length → cft (rd_T53 l b) < 0 → cft (rd_T53 l a) < 0) :
    Calls Tryd.prog 93 #[.slice A l.length c, .agg #[.int .i64 tv0, .int .i64 tv1], .func (.func g) #[] cb] w fun e w' => ∃ (i : Nat) (b : Bool), e = .returned (.tuple #[.int .i64 i, .bool b]) ∧ As2 (i ≤ l.length ∧ (∀ t : Nat, t < i → cft (rd_T53 l t) < 0) ∧ (∀ t : Nat, i ≤ t → t < l.length → 0 ≤ cft (rd_T53 l t)) ∧ b = (decide (i < l.length) && decide (cft (rd_T53 l i) = 0))) ∧ Below w.heap.size w w' := by
  have M := As2.mk hmono
  obtain ⟨W, hW⟩ : ∃ W, W = w.alloc (.cells #[.int .i64 tv0, .int .i64 tv1] 53) := ⟨_, rfl⟩
  have k0 : W.heap[w.heap.size]? = some (.cells #[.int .i64 tv0, .int .i64 tv1] 53) := by subst hW; exact heap_alloc_new w _
  have BW := As2.mk (show Below w.heap.size w W by subst hW; exact (Below.refl _ _).alloc (Nat.le_refl _) _)
  have HC := As2.mk (Kd.C_below hC BW.out)
  have HM := As2.mk hcmp
  have K0 := As2.mk k0
  have S0 := As2.mk (Below.refl W.heap.size W)
  clear hC hmono hcmp k0
  go_enter Tryd.func93, Tryd.ntmps93
  go_wp2
  rw [← hW]
  clear hW
  go_loopg [9, 10] l.length (fun kx s9 s10 wr => ∃ lo hi : Nat, s9 = .int .i64 lo ∧ s10 = .int .i64 hi ∧ lo ≤ hi ∧ hi ≤ l.length ∧ hi - lo ≤ kx ∧ As2 (Below W.heap.size W wr) ∧
    As2 ((∀ t : Nat, t < lo → cft (rd_T53 l t) < 0) ∧ (∀ t : Nat, hi ≤ t → t < l.length → 0 ≤ cft (rd_T53 l t))))
  case atStart => exact ⟨0, l.length, rfl, rfl, Nat.zero_le _, Nat.le_refl _, by omega, S0, ⟨⟨fun t ht => absurd ht (Nat.not_lt_zero _), fun t h1 h2 => by omega⟩⟩⟩
  case round =>
    clear S0
    obtain ⟨lo, hi, rfl, rfl, hlh, hin, hg, S1, I⟩ := hrel
    by_cases hlt : lo < hi
    · obtain ⟨m, hm⟩ : ∃ m : Nat, ((lo : Int) + (hi : Int)) / 2 = (m : Int) := ⟨(lo + hi) / 2, by omega⟩
      have hm1 : lo ≤ m := by omega
      have hm2 : m < hi := by omega
      have hm3 : (m : Int) < l.length := by omega
      obtain ⟨ad, rfl, c0, c1⟩ := at_T53 (Kd.C_below HC.out S1.out) (m : Int) (by omega) (by omega)
      rw [Int.toNat_natCast] at c0 c1
      have kb := blk_below K0.out S1.out
      have kb0 : wr.cell? ⟨w.heap.size, 0, none⟩ = some (.int .i64 tv0) := (blk_cell kb 0).trans rfl
      have kb1 : wr.cell? ⟨w.heap.size, 1, none⟩ = some (.int .i64 tv1) := (blk_cell kb 1).trans rfl
      clear kb
      generalize hy : rd_T53 l (m : Int) = y at c0 c1
      have Y := As2.mk hy
      clear hy
      by_cases hyx : cft y < 0
      · go_wp2_with fail
        refine wp_region_still_tail 6 (by kernel_rfl) (by kernel_rfl) ?_
        simp only [List.take_succ_cons, List.take_zero, List.drop_succ_cons, List.drop_zero]
        still_step
        still_step
        still_step
        still_step
        still_step
        still_step
        refine wpStill_nil ?_
        go_wp2_with (refine (HM.out _ y (below_step (below_step BW.out S1.out) (pw_below_drewN (Below.refl _ _) 1))).mono ?_; rintro e w' ⟨rfl, hb⟩; have S2 := As2.mk (below_step (below_step S1.out (pw_below_drewN (Below.refl _ _) 1)) hb); clear hb)
        go_roundg (hi - (m + 1))
        case measure => omega
        case rel =>
          have I2 : As2 ((∀ t : Nat, t < m + 1 → cft (rd_T53 l t) < 0) ∧ (∀ t : Nat, hi ≤ t → t < l.length → 0 ≤ cft (rd_T53 l t))) := ⟨fun t ht => M.out t m (by omega) (by omega) (by rw [Y.out]; exact hyx), I.out.2⟩
          exact ⟨m + 1, hi, by rfl, rfl, by omega, hin, Nat.le_refl _, S2, I2⟩
      · go_wp2_with fail
        refine wp_region_still_tail 6 (by kernel_rfl) (by kernel_rfl) ?_
        simp only [List.take_succ_cons, List.take_zero, List.drop_succ_cons, List.drop_zero]
        still_step
        still_step
        still_step
        still_step
        still_step
        still_step
        refine wpStill_nil ?_
        go_wp2_with (refine (HM.out _ y (below_step (below_step BW.out S1.out) (pw_below_drewN (Below.refl _ _) 1))).mono ?_; rintro e w' ⟨rfl, hb⟩; have S2 := As2.mk (below_step (below_step S1.out (pw_below_drewN (Below.refl _ _) 1)) hb); clear hb)
        go_roundg (m - lo)
        case measure => omega
        case rel =>
          have I2 : As2 ((∀ t : Nat, t < lo → cft (rd_T53 l t) < 0) ∧ (∀ t : Nat, m ≤ t → t < l.length → 0 ≤ cft (rd_T53 l t))) := ⟨I.out.1, fun t ht htn => Int.not_lt.1 fun h => by
            have z := M.out m t (by omega) (by omega) h
            rw [Y.out] at z
            exact absurd z (by omega)⟩
          exact ⟨lo, m, rfl, by rfl, by omega, by omega, Nat.le_refl _, S2, I2⟩
    · obtain rfl : hi = lo := by omega
      by_cases hn : hi < l.length
      · obtain ⟨ad, rfl, c0, c1⟩ := at_T53 (Kd.C_below HC.out S1.out) (hi : Int) (by omega) (by omega)
        rw [Int.toNat_natCast] at c0 c1
        have kb := blk_below K0.out S1.out
        have kb0 : wr.cell? ⟨w.heap.size, 0, none⟩ = some (.int .i64 tv0) := (blk_cell kb 0).trans rfl
        have kb1 : wr.cell? ⟨w.heap.size, 1, none⟩ = some (.int .i64 tv1) := (blk_cell kb 1).trans rfl
        clear kb
        generalize hy : rd_T53 l (hi : Int) = y at c0 c1
        have Y := As2.mk hy
        clear hy
        have hn' : (hi : Int) < l.length := by omega
        go_wp2_with fail
        refine start_ (n := 16) (S := fun w' => w'.cell? ⟨w.heap.size, 0, none⟩ = some (.int .i64 tv0) ∧ w'.cell? ⟨w.heap.size, 1, none⟩ = some (.int .i64 tv1) ∧ w'.cell? (ad.add (hi * 2)) = some (.int .i64 y.f0) ∧ w'.cell? ⟨(ad.add (hi * 2)).block, (ad.add (hi * 2)).off + 1, none⟩ = some (.int .i64 y.f1)) (ds := []) #[false, false, false, false, false, false, false, false, false, false, false, false, false, false, false, false] (by kernel_rfl) rfl rfl ⟨kb0, kb1, c0, c1⟩ (fun hHeld => ?_)
        refine pure_ (i := 0) (N := (some 35)) (v := ?_) (a' := ?_) #[true, false, false, false, false, false, false, false, false, false, false, false, false, false, false, false] rfl rfl (by kernel_rfl) (fun _ _ _ h => h) (Or.inl ⟨by rfl, ?_⟩) ?_ ?_
        rotate_left
        · intro w'
          go_simp
          with_reducible rfl
        rotate_left
        · simp only [Act.put, List.setIfInBounds_toArray, List.set_cons_zero, List.set_cons_succ, i64_w, i32_w]
          rfl
        refine pure_ (i := 1) (N := (some 36)) (v := ?_) (a' := ?_) #[true, true, false, false, false, false, false, false, false, false, false, false, false, false, false, false] rfl rfl (by kernel_rfl) (fun _ _ _ h => h) (Or.inl ⟨by rfl, ?_⟩) ?_ ?_
        rotate_left
        · intro w'
          go_simp
          with_reducible rfl
        rotate_left
        · simp only [Act.put, List.setIfInBounds_toArray, List.set_cons_zero, List.set_cons_succ, i64_w, i32_w]
          rfl
        refine pure_ (i := 2) (N := (some 37)) (v := ?_) (a' := ?_) #[true, true, true, false, false, false, false, false, false, false, false, false, false, false, false, false] rfl rfl (by kernel_rfl) (fun _ _ _ h => h) (Or.inl ⟨by rfl, ?_⟩) ?_ ?_
        rotate_left
        · intro w'
          go_simp
          with_reducible rfl
        rotate_left
        · simp only [Act.put, List.setIfInBounds_toArray, List.set_cons_zero, List.set_cons_succ, i64_w, i32_w]
          rfl
        refine pure_ (i := 3) (N := (some 38)) (v := ?_) (a' := ?_) #[true, true, true, true, false, false, false, false, false, false, false, false, false, false, false, false] rfl rfl (by kernel_rfl) (fun _ _ _ h => h) (Or.inl ⟨by rfl, ?_⟩) ?_ ?_
        rotate_left
        · intro w'
          go_simp
          with_reducible rfl
        rotate_left
        · simp only [Act.put, List.setIfInBounds_toArray, List.set_cons_zero, List.set_cons_succ, i64_w, i32_w]
          rfl
        refine pure_ (i := 4) (N := (some 39)) (v := ?_) (a' := ?_) #[true, true, true, true, true, false, false, false, false, false, false, false, false, false, false, false] rfl rfl (by kernel_rfl) (fun _ _ _ h => h) (Or.inl ⟨by rfl, ?_⟩) ?_ ?_
        rotate_left
        · intro w'
          go_simp
          with_reducible rfl
        rotate_left
        · simp only [Act.put, List.setIfInBounds_toArray, List.set_cons_zero, List.set_cons_succ, i64_w, i32_w]
          rfl
        refine pure_ (i := 5) (N := (some 40)) (v := ?_) (a' := ?_) #[true, true, true, true, true, true, false, false, false, false, false, false, false, false, false, false] rfl rfl (by kernel_rfl) (fun _ _ _ h => h) (Or.inl ⟨by rfl, ?_⟩) ?_ ?_
        rotate_left
        · intro w'
          go_simp
          with_reducible rfl
        rotate_left
        · simp only [Act.put, List.setIfInBounds_toArray, List.set_cons_zero, List.set_cons_succ, i64_w, i32_w]
          rfl
        refine pure_ (i := 6) (N := (some 41)) (v := ?_) (a' := ?_) #[true, true, true, true, true, true, true, false, false, false, false, false, false, false, false, false] rfl rfl (by kernel_rfl) (fun _ _ _ h => h) (Or.inl ⟨by rfl, ?_⟩) ?_ ?_
        rotate_left
        · intro w'
          go_simp
          with_reducible rfl
        rotate_left
        · simp only [Act.put, List.setIfInBounds_toArray, List.set_cons_zero, List.set_cons_succ, i64_w, i32_w]
          rfl
        refine pure_ (i := 7) (N := (some 42)) (v := ?_) (a' := ?_) #[true, true, true, true, true, true, true, true, false, false, false, false, false, false, false, false] rfl rfl (by kernel_rfl) (fun _ _ _ h => h) (Or.inl ⟨by rfl, ?_⟩) ?_ ?_
        rotate_left
        · intro w'
          go_simp
          with_reducible rfl
        rotate_left
        · simp only [Act.put, List.setIfInBounds_toArray, List.set_cons_zero, List.set_cons_succ, i64_w, i32_w]
          rfl
        refine pure_ (i := 8) (N := (some 43)) (v := ?_) (a' := ?_) #[true, true, true, true, true, true, true, true, true, false, false, false, false, false, false, false] rfl rfl (by kernel_rfl) (fun _ _ _ h => h) (Or.inl ⟨by rfl, ?_⟩) ?_ ?_
        rotate_left
        · intro w'
          go_simp
          with_reducible rfl
        rotate_left
        · simp only [Act.put, List.setIfInBounds_toArray, List.set_cons_zero, List.set_cons_succ, i64_w, i32_w]
          rfl
        refine take_ (i := 9) (N := (some 44)) (v := ?_) (a' := ?_) #[true, true, true, true, true, true, true, true, true, true, false, false, false, false, false, false] rfl rfl (by kernel_rfl) (fun _ _ _ h => h) (Or.inl ⟨by rfl, ?_⟩) hHeld ?_ ?_
        rotate_left
        · rintro w' ⟨s0, s1, s2, s3⟩
          go_simp
          with_reducible rfl
        rotate_left
        · simp only [Act.put, List.setIfInBounds_toArray, List.set_cons_zero, List.set_cons_succ, i64_w, i32_w]
          rfl
        refine take_ (i := 10) (N := (some 45)) (v := ?_) (a' := ?_) #[true, true, true, true, true, true, true, true, true, true, true, false, false, false, false, false] rfl rfl (by kernel_rfl) (fun _ _ _ h => h) (Or.inl ⟨by rfl, ?_⟩) hHeld ?_ ?_
        rotate_left
        · rintro w' ⟨s0, s1, s2, s3⟩
          go_simp
          with_reducible rfl
        rotate_left
        · simp only [Act.put, List.setIfInBounds_toArray, List.set_cons_zero, List.set_cons_succ, i64_w, i32_w]
          rfl
        refine one_ (i := 11) (N := (some 46)) #[true, true, true, true, true, true, true, true, true, true, true, true, false, false, false, false] rfl rfl (by kernel_rfl) (by decide) (fun K hK => ?_)
        refine call_ g (#[.agg #[.int .i64 y.f0, .int .i64 y.f1], .agg #[.int .i64 tv0, .int .i64 tv1]] ++ cb) (by rfl) rfl (by go_simp) ?_
        refine (HM.out _ y (below_step (below_step BW.out S1.out) (pw_below_drewN (Below.refl _ _) 1))).mono ?_
        rintro e w' ⟨rfl, hb⟩
        have S2 := As2.mk (below_step (below_step S1.out (pw_below_drewN (Below.refl _ _) 1)) hb)
        refine ⟨_, rfl, ?_⟩
        refine hK.out _ _ ⟨(hb.cell (World.block_lt_of_cell? _ _ (show wr.drew.cell? _ = _ from kb0))).trans (show wr.drew.cell? _ = _ from kb0), (hb.cell (World.block_lt_of_cell? _ _ (show wr.drew.cell? _ = _ from kb1))).trans (show wr.drew.cell? _ = _ from kb1), (hb.cell (World.block_lt_of_cell? _ _ (show wr.drew.cell? _ = _ from c0))).trans (show wr.drew.cell? _ = _ from c0), (hb.cell (World.block_lt_of_cell? _ _ (show wr.drew.cell? _ = _ from c1))).trans (show wr.drew.cell? _ = _ from c1)⟩ (fun hHeld => ?_)
        clear hK K
        refine norm_ (a' := ?_) ?_ ?_
        rotate_left
        · show Act.put _ (some 46) _ = _
          simp only [Act.put, List.setIfInBounds_toArray, List.set_cons_zero, List.set_cons_succ, i64_w, i32_w]
          rfl
        refine pure_ (i := 12) (N := (some 47)) (v := ?_) (a' := ?_) #[true, true, true, true, true, true, true, true, true, true, true, true, true, false, false, false] rfl rfl (by kernel_rfl) (fun _ _ _ h => h) (Or.inl ⟨by rfl, ?_⟩) ?_ ?_
        rotate_left
        · intro w'
          go_simp
          with_reducible rfl
        rotate_left
        · simp only [Act.put, List.setIfInBounds_toArray, List.set_cons_zero, List.set_cons_succ, i64_w, i32_w]
          rfl
        refine pure_ (i := 13) (N := (some 48)) (v := ?_) (a' := ?_) #[true, true, true, true, true, true, true, true, true, true, true, true, true, true, false, false] rfl rfl (by kernel_rfl) (fun _ _ _ h => h) (Or.inl ⟨by rfl, ?_⟩) ?_ ?_
        rotate_left
        · intro w'
          go_simp
          with_reducible rfl
        rotate_left
        · simp only [Act.put, List.setIfInBounds_toArray, List.set_cons_zero, List.set_cons_succ, i64_w, i32_w]
          rfl
        refine pure_ (i := 14) (N := (some 6)) (v := ?_) (a' := ?_) #[true, true, true, true, true, true, true, true, true, true, true, true, true, true, true, false] rfl rfl (by kernel_rfl) (fun _ _ _ h => h) (Or.inl ⟨by rfl, ?_⟩) ?_ ?_
        rotate_left
        · intro w'
          go_simp
          with_reducible rfl
        rotate_left
        · simp only [Act.put, List.setIfInBounds_toArray, List.set_cons_zero, List.set_cons_succ, i64_w, i32_w]
          rfl
        refine pure_ (i := 15) (N := (some 7)) (v := ?_) (a' := ?_) #[true, true, true, true, true, true, true, true, true, true, true, true, true, true, true, true] rfl rfl (by kernel_rfl) (fun _ _ _ h => h) (Or.inl ⟨by rfl, ?_⟩) ?_ ?_
        rotate_left
        · intro w'
          go_simp
          with_reducible rfl
        rotate_left
        · simp only [Act.put, List.setIfInBounds_toArray, List.set_cons_zero, List.set_cons_succ, i64_w, i32_w]
          rfl
        refine done_ (by kernel_rfl) ?_
        go_wp2_with fail
        go_ret2
        exact ⟨hi, cft y == 0, rfl, ⟨hin, I.out.1, I.out.2, by rw [Y.out]; by_cases h : cft y = 0 <;> simp [h, hn]⟩, below_step BW.out S2.out⟩
      · have hn' : ¬ (hi : Int) < l.length := by omega
        go_wp2_with fail
        refine start_ (n := 16) (S := fun w' => True) (ds := []) #[false, false, false, false, false, false, false, false, false, false, false, false, false, false, false, false] (by kernel_rfl) rfl rfl trivial (fun hHeld => ?_)
        refine pure_ (i := 0) (N := (some 35)) (v := ?_) (a' := ?_) #[true, false, false, false, false, false, false, false, false, false, false, false, false, false, false, false] rfl rfl (by kernel_rfl) (fun _ _ _ h => h) (Or.inl ⟨by rfl, ?_⟩) ?_ ?_
        rotate_left
        · intro w'
          go_simp
          with_reducible rfl
        rotate_left
        · simp only [Act.put, List.setIfInBounds_toArray, List.set_cons_zero, List.set_cons_succ, i64_w, i32_w]
          rfl
        refine pure_ (i := 1) (N := (some 36)) (v := ?_) (a' := ?_) #[true, true, false, false, false, false, false, false, false, false, false, false, false, false, false, false] rfl rfl (by kernel_rfl) (fun _ _ _ h => h) (Or.inl ⟨by rfl, ?_⟩) ?_ ?_
        rotate_left
        · intro w'
          go_simp
          with_reducible rfl
        rotate_left
        · simp only [Act.put, List.setIfInBounds_toArray, List.set_cons_zero, List.set_cons_succ, i64_w, i32_w]
          rfl
        refine pure_ (i := 2) (N := (some 37)) (v := ?_) (a' := ?_) #[true, true, true, false, false, false, false, false, false, false, false, false, false, false, false, false] rfl rfl (by kernel_rfl) (fun _ _ _ h => h) (Or.inl ⟨by rfl, ?_⟩) ?_ ?_
        rotate_left
        · intro w'
          go_simp
          with_reducible rfl
        rotate_left
        · simp only [Act.put, List.setIfInBounds_toArray, List.set_cons_zero, List.set_cons_succ, i64_w, i32_w]
          rfl
        refine pure_ (i := 3) (N := (some 38)) (v := ?_) (a' := ?_) #[true, true, true, true, false, false, false, false, false, false, false, false, false, false, false, false] rfl rfl (by kernel_rfl) (fun _ _ _ h => h) (Or.inl ⟨by rfl, ?_⟩) ?_ ?_
        rotate_left
        · intro w'
          go_simp
          with_reducible rfl
        rotate_left
        · simp only [Act.put, List.setIfInBounds_toArray, List.set_cons_zero, List.set_cons_succ, i64_w, i32_w]
          rfl
        refine pure_ (i := 4) (N := (some 39)) (v := ?_) (a' := ?_) #[true, true, true, true, true, false, false, false, false, false, false, false, false, false, false, false] rfl rfl (by kernel_rfl) (fun _ _ _ h => h) (Or.inl ⟨by rfl, ?_⟩) ?_ ?_
        rotate_left
        · intro w'
          go_simp
          with_reducible rfl
        rotate_left
        · simp only [Act.put, List.setIfInBounds_toArray, List.set_cons_zero, List.set_cons_succ, i64_w, i32_w]
          rfl
        refine pure_ (i := 5) (N := (some 40)) (v := undef) (a' := ?_) #[true, true, true, true, true, true, false, false, false, false, false, false, false, false, false, false] rfl rfl (by kernel_rfl) (fun _ _ _ h => h) (Or.inr ⟨by rfl, rfl⟩) ?_ ?_
        rotate_left
        · simp only [Act.put, List.setIfInBounds_toArray, List.set_cons_zero, List.set_cons_succ, i64_w, i32_w]
          rfl
        refine pure_ (i := 6) (N := (some 41)) (v := undef) (a' := ?_) #[true, true, true, true, true, true, true, false, false, false, false, false, false, false, false, false] rfl rfl (by kernel_rfl) (fun _ _ _ h => h) (Or.inr ⟨by rfl, rfl⟩) ?_ ?_
        rotate_left
        · simp only [Act.put, List.setIfInBounds_toArray, List.set_cons_zero, List.set_cons_succ, i64_w, i32_w]
          rfl
        refine pure_ (i := 7) (N := (some 42)) (v := undef) (a' := ?_) #[true, true, true, true, true, true, true, true, false, false, false, false, false, false, false, false] rfl rfl (by kernel_rfl) (fun _ _ _ h => h) (Or.inr ⟨by rfl, rfl⟩) ?_ ?_
        rotate_left
        · simp only [Act.put, List.setIfInBounds_toArray, List.set_cons_zero, List.set_cons_succ, i64_w, i32_w]
          rfl
        refine pure_ (i := 8) (N := (some 43)) (v := undef) (a' := ?_) #[true, true, true, true, true, true, true, true, true, false, false, false, false, false, false, false] rfl rfl (by kernel_rfl) (fun _ _ _ h => h) (Or.inr ⟨by rfl, rfl⟩) ?_ ?_
        rotate_left
        · simp only [Act.put, List.setIfInBounds_toArray, List.set_cons_zero, List.set_cons_succ, i64_w, i32_w]
          rfl
        refine pure_ (i := 9) (N := (some 44)) (v := undef) (a' := ?_) #[true, true, true, true, true, true, true, true, true, true, false, false, false, false, false, false] rfl rfl (by kernel_rfl) (fun _ _ _ h => h) (Or.inr ⟨by rfl, rfl⟩) ?_ ?_
        rotate_left
        · simp only [Act.put, List.setIfInBounds_toArray, List.set_cons_zero, List.set_cons_succ, i64_w, i32_w]
          rfl
        refine pure_ (i := 10) (N := (some 45)) (v := undef) (a' := ?_) #[true, true, true, true, true, true, true, true, true, true, true, false, false, false, false, false] rfl rfl (by kernel_rfl) (fun _ _ _ h => h) (Or.inr ⟨by rfl, rfl⟩) ?_ ?_
        rotate_left
        · simp only [Act.put, List.setIfInBounds_toArray, List.set_cons_zero, List.set_cons_succ, i64_w, i32_w]
          rfl
        refine pure_ (i := 11) (N := (some 46)) (v := undef) (a' := ?_) #[true, true, true, true, true, true, true, true, true, true, true, true, false, false, false, false] rfl rfl (by kernel_rfl) (fun _ _ _ h => h) (Or.inr ⟨by rfl, rfl⟩) ?_ ?_
        rotate_left
        · simp only [Act.put, List.setIfInBounds_toArray, List.set_cons_zero, List.set_cons_succ, i64_w, i32_w]
          rfl
        refine pure_ (i := 12) (N := (some 47)) (v := undef) (a' := ?_) #[true, true, true, true, true, true, true, true, true, true, true, true, true, false, false, false] rfl rfl (by kernel_rfl) (fun _ _ _ h => h) (Or.inr ⟨by rfl, rfl⟩) ?_ ?_
        rotate_left
        · simp only [Act.put, List.setIfInBounds_toArray, List.set_cons_zero, List.set_cons_succ, i64_w, i32_w]
          rfl
        refine pure_ (i := 13) (N := (some 48)) (v := ?_) (a' := ?_) #[true, true, true, true, true, true, true, true, true, true, true, true, true, true, false, false] rfl rfl (by kernel_rfl) (fun _ _ _ h => h) (Or.inl ⟨by rfl, ?_⟩) ?_ ?_
        rotate_left
        · intro w'
          go_simp
          with_reducible rfl
        rotate_left
        · simp only [Act.put, List.setIfInBounds_toArray, List.set_cons_zero, List.set_cons_succ, i64_w, i32_w]
          rfl
        refine pure_ (i := 14) (N := (some 6)) (v := ?_) (a' := ?_) #[true, true, true, true, true, true, true, true, true, true, true, true, true, true, true, false] rfl rfl (by kernel_rfl) (fun _ _ _ h => h) (Or.inl ⟨by rfl, ?_⟩) ?_ ?_
        rotate_left
        · intro w'
          go_simp
          with_reducible rfl
        rotate_left
        · simp only [Act.put, List.setIfInBounds_toArray, List.set_cons_zero, List.set_cons_succ, i64_w, i32_w]
          rfl
        refine pure_ (i := 15) (N := (some 7)) (v := ?_) (a' := ?_) #[true, true, true, true, true, true, true, true, true, true, true, true, true, true, true, true] rfl rfl (by kernel_rfl) (fun _ _ _ h => h) (Or.inl ⟨by rfl, ?_⟩) ?_ ?_
        rotate_left
        · intro w'
          go_simp
          with_reducible rfl
        rotate_left
        · simp only [Act.put, List.setIfInBounds_toArray, List.set_cons_zero, List.set_cons_succ, i64_w, i32_w]
          rfl
        refine done_ (by kernel_rfl) ?_
        go_wp2_with fail
        go_ret2
        exact ⟨hi, false, rfl, ⟨hin, I.out.1, I.out.2, by simp [hn]⟩, below_step BW.out (below_step S1.out (pw_below_drewN (Below.refl _ _) 1))⟩
end Go.Proofs.YtfgbkklhjocmjaaDoor.Xq
namespace Go.Proofs.YtfgbkklhjocmjaaDoor.Xq
open Go.RowKit Go.Shelf Go.Proofs.YtfgbkklhjocmjaaDoorW.PrintWords Go.Proofs.YtfgbkklhjocmjaaDoorW.PrintLast Go.Proofs.YtfgbkklhjocmjaaDoor.Gv
attribute [local go_sem] Oper.semAt_some
def succL (l : List S53) (v : Int) : List Int := (l.filter fun x => decide (x.f0 = v)).map fun x => x.f1
def Rising (l : List S53) : Prop := ∀ a b : Nat, a ≤ b → b < l.length → (rd_T53 l a).f0 ≤ (rd_T53 l b).f0
def Ends (l : List S53) : Prop := ∀ a : Nat, a < l.length → 0 ≤ (rd_T53 l a).f1
def NextAt (l : List S53) (v : Int) (i : Nat) : Prop := i ≤ l.length ∧ (∀ t : Nat, t < i → (rd_T53 l t).f0 < v) ∧ ∀ t : Nat, i ≤ t → t < l.length → v ≤ (rd_T53 l t).f0
def seg (l : List S53) (i k : Nat) : List Int := (List.range k).map fun j : Nat => (rd_T53 l ((i + j : Nat) : Int)).f1
theorem seg_succ (l : List S53) (i k : Nat) : seg l i (k + 1) = seg l i k ++ [(rd_T53 l ((i + k : Nat) : Int)).f1] := by simp [seg, List.range_succ]
theorem seg_length (l : List S53) (i k : Nat) : (seg l i k).length = k := by simp [seg]
theorem rd_at {l : List S53} {a : Nat} (h : a < l.length) : rd_T53 l (a : Int) = l[a] := by simp [rd_T53, h]
theorem seg_take (l : List S53) (i k : Nat) (hk : i + k ≤ l.length) : seg l i k = ((l.drop i).take k).map fun x => x.f1 := by
  apply List.ext_getElem
  · simp [seg]; omega
  · intro j h1 h2
    have hj : j < k := by simpa [seg] using h1
    have : i + j < l.length := by omega
    have e : (rd_T53 l ((i + j : Nat) : Int)).f1 = l[i + j].f1 := by rw [rd_at this]
    simp only [seg, List.getElem_map, List.getElem_range, List.getElem_take, List.getElem_drop]
    exact e
theorem succ_seg (l : List S53) (v : Int) (i : Nat) (hr : Rising l) (ha : NextAt l v i) :
    ∃ m, i + m ≤ l.length ∧ (∀ j, j < m → (rd_T53 l ((i + j : Nat) : Int)).f0 = v) ∧ (i + m < l.length → (rd_T53 l ((i + m : Nat) : Int)).f0 ≠ v) ∧ seg l i m = succL l v := by
  obtain ⟨hi, hlt, hge⟩ := ha
  let p : S53 → Bool := fun x => decide (x.f0 = v)
  let m := ((l.drop i).takeWhile p).length
  have hmle : m ≤ (l.drop i).length := by
    have := (List.takeWhile_prefix (p := p) (l := l.drop i)).length_le
    exact this
  have hm1 : i + m ≤ l.length := by rw [List.length_drop] at hmle; omega
  have htw : (l.drop i).takeWhile p = (l.drop i).take m := by
    have := List.takeWhile_prefix (p := p) (l := l.drop i)
    exact List.prefix_iff_eq_take.1 this
  have hall : ∀ x ∈ (l.drop i).take m, p x = true := by
    rw [← htw]
    intro x hx
    exact List.all_eq_true.1 List.all_takeWhile x hx
  have hin : ∀ j, j < m → (rd_T53 l ((i + j : Nat) : Int)).f0 = v := by
    intro j hj
    have h1 : i + j < l.length := by omega
    rw [rd_at h1]
    have h2 : l[i + j] ∈ (l.drop i).take m := by
      rw [List.mem_take_iff_getElem]
      exact ⟨j, by rw [List.length_drop]; omega, by simp⟩
    have := hall _ h2
    simpa [p] using this
  have hend : i + m < l.length → (rd_T53 l ((i + m : Nat) : Int)).f0 ≠ v := by
    intro h1 h2
    rw [rd_at h1] at h2
    have hd : (l.drop i).dropWhile p = (l.drop i).drop m := by
      have h := List.takeWhile_append_dropWhile (p := p) (l := l.drop i)
      have h' := List.take_append_drop m (l.drop i)
      rw [htw] at h
      exact List.append_cancel_left (h.trans h'.symm)
    have hl : m < (l.drop i).length := by rw [List.length_drop]; omega
    have hd2 : (l.drop i).drop m = (l.drop i)[m] :: (l.drop i).drop (m + 1) := List.drop_eq_getElem_cons hl
    rw [hd2] at hd
    have hne : (l.drop i).dropWhile p ≠ [] := by rw [hd]; simp
    have := List.head_dropWhile_not p hne
    have e : ((l.drop i).dropWhile p).head hne = (l.drop i)[m] := by simp [hd]
    rw [e] at this
    simp [p] at this
    exact this h2
  refine ⟨m, hm1, hin, hend, ?_⟩
  rw [seg_take l i m hm1]
  unfold succL
  congr 1
  have e1 : l = l.take i ++ ((l.drop i).take m ++ (l.drop i).drop m) := by rw [List.take_append_drop, List.take_append_drop]
  conv => rhs; rw [e1]
  rw [List.filter_append, List.filter_append]
  have f1 : (l.take i).filter (fun x => decide (x.f0 = v)) = [] := by
    rw [List.filter_eq_nil_iff]
    intro x hx
    obtain ⟨j, hj, rfl⟩ := List.mem_iff_getElem.1 hx
    have hj' : j < i := by simp at hj; omega
    have h3 := hlt j hj'
    rw [rd_at (by omega)] at h3
    simp; omega
  have f2 : ((l.drop i).take m).filter (fun x => decide (x.f0 = v)) = (l.drop i).take m := by
    rw [List.filter_eq_self]
    exact hall
  have f3 : ((l.drop i).drop m).filter (fun x => decide (x.f0 = v)) = [] := by
    rw [List.filter_eq_nil_iff]
    intro x hx
    obtain ⟨j, hj, rfl⟩ := List.mem_iff_getElem.1 hx
    have hj' : i + m + j < l.length := by simp at hj; omega
    have h3 := hend (by omega)
    have h4 := hr (i + m) (i + m + j) (by omega) hj'
    have h5 := hge (i + m) (by omega) (by omega)
    rw [rd_at hj'] at h4
    have : ((l.drop i).drop m)[j] = l[i + m + j] := by simp [Nat.add_assoc]
    rw [this]
    simp; omega
  rw [f1, f2, f3]
  simp
end Go.Proofs.YtfgbkklhjocmjaaDoor.Xq
namespace Go.Proofs.YtfgbkklhjocmjaaDoor.Xq
open Go.RowKit Go.Proofs.YtfgbkklhjocmjaaDoorW.PrintWords Go.Proofs.YtfgbkklhjocmjaaDoor.Gv
def ltE (a b : S53) : Bool := decide (a.f0 < b.f0 ∨ (a.f0 = b.f0 ∧ a.f1 < b.f1))
theorem ltE_iff {a b : S53} : ltE a b = true ↔ a.f0 < b.f0 ∨ (a.f0 = b.f0 ∧ a.f1 < b.f1) := by simp [ltE]
def chkL (n : Int) : Option S53 → List S53 → Int
  | _, [] => 0
  | p, x :: r => if withinB n x = false then 4 else if (match p with | none => false | some y => !ltE y x) = true then 13 else chkL n (some x) r
theorem chkL_cons (n : Int) (p : Option S53) (x : S53) (r : List S53) : chkL n p (x :: r) = if withinB n x = false then 4 else if (match p with | none => false | some y => !ltE y x) = true then 13 else chkL n (some x) r := by
  cases p <;> rfl
def chk (n : Int) (l : List S53) : Int := if n < 0 then 4 else if n > 8192 then 3 else if (l.length : Int) > 32768 then 3 else chkL n none l
theorem Compare_f (a b : Int) : cmp_Compare_int.f a b = some (cmpI a b) := by
  unfold cmp_Compare_int.f cmp_isNaN_int.f cmpI
  by_cases h1 : a < b
  · simp [h1]
  · by_cases h2 : b < a
    · simp [h1, h2]
    · simp [h1, h2]
theorem Or_f (k : Nat) (a b : Int) : cmp_Or_int.f (k + 3) [a, b] = some (orI a b) := by
  have w1 : wrap64 1 = 1 := by unfold wrap64; omega
  have w2 : wrap64 2 = 2 := by unfold wrap64; omega
  unfold cmp_Or_int.f orI
  by_cases h1 : a = 0
  · subst h1
    by_cases h2 : b = 0
    · subst h2
      simp [cmp_Or_int.l0, rd, w1, w2]
    · simp [cmp_Or_int.l0, rd, h2, w1]
  · simp [cmp_Or_int.l0, rd, h1]
theorem compare_f (k : Nat) (a b : S53) : graph_compare.f (k + 3) a.f0 a.f1 b.f0 b.f1 = some (orI (cmpI a.f0 b.f0) (cmpI a.f1 b.f1)) := by
  unfold graph_compare.f
  rw [Compare_f, Compare_f]
  simp [Or_f]
theorem compare_ge (a b : S53) : (orI (cmpI a.f0 b.f0) (cmpI a.f1 b.f1) ≥ 0) ↔ ltE a b = false := by
  unfold orI cmpI ltE
  rw [decide_eq_false_iff_not]
  by_cases h1 : a.f0 < b.f0
  · simp [h1]
  · by_cases h2 : b.f0 < a.f0
    · simp [h1, h2]; omega
    · have : a.f0 = b.f0 := by omega
      by_cases h3 : a.f1 < b.f1
      · simp [this, h3]
      · by_cases h4 : b.f1 < a.f1
        · simp [this, h3, h4]
        · simp [this, h3, h4]
theorem Check_l0 (n : Int) (l : List S53) (hl : l.length ≤ 32768) : ∀ (d i k : Nat), i + d = l.length → d + 4 ≤ k →
    graph_Check.l0 k l (l.length : Int) (i : Int) n l = some (chkL n (if i = 0 then none else some (rd_T53 l ((i : Int) - 1))) (l.drop i)) := by
  intro d
  induction d with
  | zero =>
    intro i k hi hk
    obtain ⟨k, rfl⟩ : ∃ k', k = k' + 1 := ⟨k - 1, by omega⟩
    have : l.drop i = [] := List.drop_eq_nil_of_le (by omega)
    rw [this]
    simp only [graph_Check.l0, chkL]
    rw [if_neg (by omega)]
  | succ d ih =>
    intro i k hi hk
    obtain ⟨k, rfl⟩ : ∃ k', k = k' + 3 + 1 := ⟨k - 4, by omega⟩
    have hlt : i < l.length := by omega
    rw [List.drop_eq_getElem_cons hlt, graph_Check.l0, chkL_cons]
    have hw : wrap64 ((i : Int) + 1) = ((i + 1 : Nat) : Int) := by unfold wrap64; omega
    have e1 : ((i + 1 : Nat) : Int) - 1 = (i : Int) := by omega
    have IH := ih (i + 1) (k + 3) (by omega) (by omega)
    rw [if_neg (show ¬ i + 1 = 0 by omega), e1, rd_at' hlt] at IH
    rw [hw, IH, if_pos (by omega), if_pos (by omega), if_pos (by omega), rd_at' hlt, within_f]
    generalize chkL n (some l[i]) (l.drop (i + 1)) = R
    simp only [Option.bind_some]
    by_cases hb : withinB n l[i] = true
    · rw [if_pos hb, if_neg (show ¬ withinB n l[i] = false by simp [hb])]
      by_cases h0 : i = 0
      · rw [if_neg (show ¬ (i : Int) > 0 by omega), if_pos h0]
        simp
      · have hw2 : wrap64 ((i : Int) - 1) = ((i - 1 : Nat) : Int) := by unfold wrap64; omega
        have e2 : (i : Int) - 1 = ((i - 1 : Nat) : Int) := by omega
        rw [if_pos (show (i : Int) > 0 by omega), hw2, if_pos (by omega), if_pos (by omega), compare_f, if_neg h0, e2]
        simp only [Option.bind_some]
        by_cases hc : ltE (rd_T53 l ((i - 1 : Nat) : Int)) l[i] = false
        · rw [if_pos ((compare_ge _ _).2 hc), if_pos (by simp [hc])]
        · rw [if_neg (fun h => hc ((compare_ge _ _).1 h)), if_neg (by simp at hc; simp [hc])]
    · have hb' : withinB n l[i] = false := by simpa using hb
      rw [if_neg hb, if_pos hb']
theorem Check_f (n : Int) (l : List S53) (k : Nat) (hk : l.length + 4 ≤ k) : graph_Check.f k n l = some (chk n l) := by
  unfold graph_Check.f chk
  by_cases h1 : n < 0
  · simp [h1]
  · by_cases h2 : n > 8192
    · simp [h1, h2]
    · by_cases h3 : (l.length : Int) > 32768
      · rw [if_neg h1, if_neg h2, if_pos h3, if_neg h1, if_neg h2, if_pos h3]
      · rw [if_neg h1, if_neg h2, if_neg h3, if_neg h1, if_neg h2, if_neg h3]
        have := Check_l0 n l (by omega) l.length 0 k (by omega) hk
        simpa using this
structure Valid (n : Int) (l : List S53) : Prop where
  n0 : 0 ≤ n
  n1 : n ≤ 8192
  len : l.length ≤ 32768
  ins : ∀ x ∈ l, withinB n x = true
  asc : l.Pairwise fun a b => ltE a b = true
theorem ltE_trans {a b c : S53} (h : ltE a b = true) (k : ltE b c = true) : ltE a c = true := by
  rw [ltE_iff] at *; omega
theorem chkL_zero (n : Int) : ∀ (l : List S53) (p : Option S53), chkL n p l = 0 ↔ (∀ x ∈ l, withinB n x = true) ∧ (l.Pairwise fun a b => ltE a b = true) ∧ ∀ y, p = some y → ∀ x ∈ l, ltE y x = true
  | [], p => by simp [chkL]
  | x :: r, p => by
    simp only [chkL]
    by_cases hw : withinB n x = true
    · rw [if_neg (by simp [hw])]
      by_cases hp : (match p with | none => false | some y => !ltE y x) = true
      · rw [if_pos hp]
        constructor
        · intro h; omega
        · rintro ⟨_, _, h3⟩
          cases p with
          | none => simp at hp
          | some y => have := h3 y rfl x (by simp); simp [this] at hp
      · rw [if_neg hp, chkL_zero n r (some x)]
        constructor
        · rintro ⟨h1, h2, h3⟩
          have hx := h3 x rfl
          refine ⟨by simpa [hw] using h1, List.pairwise_cons.2 ⟨hx, h2⟩, ?_⟩
          rintro y rfl z hz
          have hy : ltE y x = true := by simpa using hp
          rcases List.mem_cons.1 hz with rfl | hz
          · exact hy
          · exact ltE_trans hy (hx z hz)
        · rintro ⟨h1, h2, h3⟩
          refine ⟨fun z hz => h1 z (by simp [hz]), (List.pairwise_cons.1 h2).2, ?_⟩
          intro y hy z hz
          obtain rfl : x = y := by simpa using hy
          exact (List.pairwise_cons.1 h2).1 z hz
    · have hw' : withinB n x = false := by simpa using hw
      rw [if_pos hw']
      constructor
      · intro h; omega
      · rintro ⟨h1, _⟩
        exact absurd (h1 x (by simp)) hw
theorem chk_zero (n : Int) (l : List S53) : chk n l = 0 ↔ Valid n l := by
  unfold chk
  by_cases h1 : n < 0
  · rw [if_pos h1]
    exact ⟨fun h => by omega, fun h => by have := h.n0; omega⟩
  · by_cases h2 : n > 8192
    · rw [if_neg h1, if_pos h2]
      exact ⟨fun h => by omega, fun h => by have := h.n1; omega⟩
    · by_cases h3 : (l.length : Int) > 32768
      · rw [if_neg h1, if_neg h2, if_pos h3]
        exact ⟨fun h => by omega, fun h => by have := h.len; omega⟩
      · rw [if_neg h1, if_neg h2, if_neg h3, chkL_zero]
        exact ⟨fun h => ⟨by omega, by omega, by omega, h.1, h.2.1⟩, fun h => ⟨h.ins, h.asc, fun y hy => by cases hy⟩⟩
theorem Valid.rising {n : Int} {l : List S53} (h : Valid n l) : Rising l := by
  intro a b hab hb
  rw [rd_at' hb, rd_at' (by omega : a < l.length)]
  rcases Nat.eq_or_lt_of_le hab with rfl | hlt
  · exact Int.le_refl _
  · have := List.pairwise_iff_getElem.1 h.asc a b (by omega) hb hlt
    rw [ltE_iff] at this
    omega
theorem within_iff {n : Int} {x : S53} : withinB n x = true ↔ 0 ≤ x.f0 ∧ x.f0 < n ∧ 0 ≤ x.f1 ∧ x.f1 < n := by simp [withinB, and_assoc]
theorem Valid.ends {n : Int} {l : List S53} (h : Valid n l) : Ends l := by
  intro a ha
  rw [rd_at' ha]
  exact (within_iff.1 (h.ins _ (List.getElem_mem ha))).2.2.1
theorem Valid.succ_lt {n : Int} {l : List S53} (h : Valid n l) {v w : Int} (hw : w ∈ succL l v) : 0 ≤ w ∧ w < n ∧ 0 ≤ v ∧ v < n := by
  unfold succL at hw
  obtain ⟨x, hx, rfl⟩ := List.mem_map.1 hw
  have hx2 := List.mem_filter.1 hx
  have := within_iff.1 (h.ins x hx2.1)
  have e : x.f0 = v := by simpa using hx2.2
  omega
theorem usable_f (n : Int) (l : List S53) (v : Int) (k : Nat) (hk : l.length + 4 ≤ k) : graph_usable.f k n l v = some (decide (0 ≤ v ∧ v < n ∧ chk n l = 0)) := by
  unfold graph_usable.f
  by_cases h1 : v ≥ 0
  · by_cases h2 : v < n
    · rw [if_pos h1, if_pos h2, Check_f n l k hk]
      by_cases h3 : chk n l = 0
      · simp [h1, h2, h3]
      · simp [h1, h2, h3]
    · rw [if_pos h1, if_neg h2]
      simp [h2]
  · rw [if_neg h1]
    simp [h1]
end Go.Proofs.YtfgbkklhjocmjaaDoor.Xq
namespace Go.Proofs.YtfgbkklhjocmjaaDoor.Xq
open Go.RowKit Go.Proofs.YtfgbkklhjocmjaaDoorW.PrintWords Go.Proofs.YtfgbkklhjocmjaaDoorW.PrintLast Go.Proofs.YtfgbkklhjocmjaaDoor.Gv
def hasN (ws : List Nat) (x : Nat) : Bool := (ws.getD (x / 64) 0).testBit (x % 64)
def setN (ws : List Nat) (x : Nat) : List Nat := ws.set (x / 64) (ws.getD (x / 64) 0 ||| 2 ^ (x % 64))
theorem setN_len (ws : List Nat) (x : Nat) : (setN ws x).length = ws.length := by simp [setN]
theorem hasN_setN (ws : List Nat) (x y : Nat) (hx : x / 64 < ws.length) : hasN (setN ws x) y = (hasN ws y || decide (y = x)) := by
  unfold hasN setN
  by_cases h : y / 64 = x / 64
  · rw [h]
    have e : (ws.set (x / 64) (ws.getD (x / 64) 0 ||| 2 ^ (x % 64))).getD (x / 64) 0 = ws.getD (x / 64) 0 ||| 2 ^ (x % 64) := by
      simp [List.getD_eq_getElem?_getD, hx]
    rw [e, Nat.testBit_or, Nat.testBit_two_pow]
    congr 1
    have : (x % 64 = y % 64) ↔ (y = x) := by omega
    simp [this]
  · have e : (ws.set (x / 64) (ws.getD (x / 64) 0 ||| 2 ^ (x % 64))).getD (y / 64) 0 = ws.getD (y / 64) 0 := by
      simp [List.getD_eq_getElem?_getD, List.getElem?_set, Ne.symm h]
    rw [e]
    have : ¬ y = x := fun e => h (by rw [e])
    simp [this]
theorem setN_lt (ws : List Nat) (x : Nat) (h : ∀ y ∈ ws, y < 18446744073709551616) : ∀ y ∈ setN ws x, y < 18446744073709551616 := by
  intro y hy
  unfold setN at hy
  rcases List.mem_or_eq_of_mem_set hy with h1 | rfl
  · exact h y h1
  · have h1 : ws.getD (x / 64) 0 < 2 ^ 64 := by
      rw [List.getD_eq_getElem?_getD]
      by_cases hl : x / 64 < ws.length
      · rw [List.getElem?_eq_getElem hl]; exact h _ (List.getElem_mem hl)
      · rw [List.getElem?_eq_none (by omega)]; decide
    have h2 : 2 ^ (x % 64) < 2 ^ 64 := Nat.pow_lt_pow_right (by omega) (by omega)
    exact Nat.or_lt_two_pow h1 h2
theorem has_f (ws : List Nat) (x : Nat) (hx : x < 1000000) (h : ∀ y ∈ ws, y < 18446744073709551616) : bits_Has.f (ws.map Int.ofNat) (x : Int) = some (hasN ws x) := by
  have e1 : wrap64 (Int.tdiv (x : Int) 64) = ((x / 64 : Nat) : Int) := by
    have : Int.tdiv (x : Int) 64 = ((x / 64 : Nat) : Int) := by simp [Int.tdiv_eq_ediv]
    rw [this]; unfold wrap64; omega
  have e2 : Int.tmod (x : Int) 64 = ((x % 64 : Nat) : Int) := by simp [Int.tmod_eq_emod]
  unfold bits_Has.f hasN
  rw [e1, e2, if_pos (by omega)]
  by_cases hl : x / 64 < ws.length
  · rw [if_pos (by simp; omega), if_pos (by omega), if_pos (by omega)]
    have hw : ws[x / 64] < 18446744073709551616 := h _ (List.getElem_mem hl)
    have e3 : rd (ws.map Int.ofNat) ((x / 64 : Nat) : Int) = (ws[x / 64] : Nat) := by
      generalize x / 64 = q at hl
      unfold rd
      rw [Int.toNat_natCast]
      simp [hl]
    have e4 : ws.getD (x / 64) 0 = ws[x / 64] := by simp [hl]
    rw [e3, e4]
    generalize ws[x / 64] = y at hw
    have hb : x % 64 < 64 := by omega
    generalize x % 64 = b at hb
    have e5 : shr .u64 (y : Int) (b : Int) = ((y / 2 ^ b : Nat) : Int) := by
      unfold shr
      rw [Int.toNat_natCast, Nat.min_eq_left (show b ≤ IntKind.u64.bits by show b ≤ 64; omega)]
      simp
    rw [e5]
    have e6 := bits_and_u64_nat (y / 2 ^ b) 1 (Nat.lt_of_le_of_lt (Nat.div_le_self _ _) hw) (by omega)
    have e7 : Go.bits .and .u64 ((y / 2 ^ b : Nat) : Int) 1 = ((y / 2 ^ b &&& 1 : Nat) : Int) := e6
    rw [e7, Nat.testBit_eq_decide_div_mod_eq, Nat.and_one_is_mod]
    congr 1
    rw [Bool.eq_iff_iff]
    generalize y / 2 ^ b = z
    simp
    omega
  · rw [if_neg (by simp; omega)]
    have e4 : ws.getD (x / 64) 0 = 0 := by simp [List.getD_eq_getElem?_getD, List.getElem?_eq_none (by omega : ws.length ≤ x / 64)]
    rw [e4]
    simp
structure RS (n : Int) (A : Option Addr) (c : Nat) (l : List S53) (Bg Bs Bw gs base : Nat) (Pr : Nat → Prop) (ws : List Nat) (wk : List Int) (W : World) : Prop where
  hg : W.heap[Bg]? = some (.cells #[.int .i64 n, .slice A l.length c] 24)
  hs : W.heap[Bs]? = some (.cells #[.slice (some ⟨gs, 0, none⟩) ws.length ws.length] 76)
  hc : W.heap[gs]? = some (.cells ((ws.map fun x : Nat => Value.int .u64 (x : Int)).toArray) 87 (0, 0))
  hw : ∃ vw, W.heap[Bw]? = some (.cells #[vw] 31) ∧ Kd.R (Kd.int .i64) 3 W base (fun k => ¬ Pr k) vw wk
  pr : ∀ k, Pr k → k < W.heap.size ∧ k ≠ gs ∧ k ≠ Bw
  lt : ∀ x ∈ ws, x < 18446744073709551616
theorem RS.drewN {n : Int} {A : Option Addr} {c : Nat} {l : List S53} {Bg Bs Bw gs base : Nat} {Pr : Nat → Prop} {ws : List Nat} {wk : List Int} {W : World} (h : RS n A c l Bg Bs Bw gs base Pr ws wk W) (m : Nat) : RS n A c l Bg Bs Bw gs base Pr ws wk (W.drewN m) := by
  obtain ⟨vw, h1, h2⟩ := h.hw
  exact ⟨h.hg, h.hs, h.hc, ⟨vw, h1, Kd.R_drewN h2 m⟩, h.pr, h.lt⟩
def addF (n : Int) (s : List Nat × List Int) (v : Int) : List Nat × List Int := if 0 ≤ v ∧ v < n ∧ hasN s.1 v.toNat = false then (setN s.1 v.toNat, s.2 ++ [v]) else s
theorem words_C {ws : List Nat} {W : World} {gs : Nat} (h : W.heap[gs]? = some (.cells ((ws.map fun x : Nat => Value.int .u64 (x : Int)).toArray) 87 (0, 0))) (hl : ws.length ≤ 9223372036854775807) : Kd.C (Kd.int .u64) W (some ⟨gs, 0, none⟩) (ws.map Int.ofNat).length (ws.map Int.ofNat) := by
  refine ⟨rfl, by simpa using hl, fun _ => ⟨_, rfl, fun j p hj => ?_⟩⟩
  rw [List.getElem?_map, Option.map_eq_some_iff] at hj
  obtain ⟨x, hx, rfl⟩ := hj
  refine ⟨[.int .u64 (x : Int)], rfl, rfl, fun i u hi => ?_⟩
  cases i with
  | zero =>
    obtain rfl : Value.int .u64 (x : Int) = u := by simpa using hi
    have e : ((⟨gs, 0, none⟩ : Addr).add (j * (Kd.int .u64).sz + 0)) = ⟨gs, j, none⟩ := by
      have e1 : (Kd.int .u64).sz = 1 := rfl
      rw [e1]
      simp [Addr.add]
      omega
    rw [e, blk_cell h]
    simp [hx]
    done
  | succ i => simp at hi
theorem or_word (x b : Nat) (hx : x < 18446744073709551616) (hb : b < 64) : Go.bits .or .u64 (x : Int) ((2 ^ b : Nat) : Int) = ((x ||| 2 ^ b : Nat) : Int) :=
  bits_or_u64_nat x (2 ^ b) hx (by have : 2 ^ b < 2 ^ 64 := Nat.pow_lt_pow_right (by omega) hb; omega)
theorem words_set (ws : List Nat) (q z : Nat) : ((ws.map fun x : Nat => Value.int .u64 (x : Int)).toArray).setIfInBounds q (.int .u64 (z : Int)) = ((ws.set q z).map fun x : Nat => Value.int .u64 (x : Int)).toArray := by
  simp [List.map_set]
theorem add_end {n : Int} {A : Option Addr} {c : Nat} {l : List S53} {Bg Bs Bw gs base : Nat} {Pr : Nat → Prop} {ws : List Nat} {wk : List Int} {W : World} (hS : RS n A c l Bg Bs Bw gs base Pr ws wk W) (hb1 : base ≤ gs) (hb2 : base ≤ Bw) {w1 w3 : World} (hd : Drawn0 W w1) {q z : Nat} {V : Value} (hV : V = .int .u64 (z : Int)) (hz : ∀ y ∈ ws.set q z, y < 18446744073709551616) {vw v1 : Value} {x : Int}
    (hvw : W.heap[Bw]? = some (.cells #[vw] 31)) (hr : Kd.R (Kd.int .i64) 3 W base (fun k => ¬ Pr k) vw wk)
    (hF : Kd.R (Kd.int .i64) 3 w3 base (fun k => ¬ Pr k) v1 (wk ++ [x])) (hg : ((w1.setCell ⟨gs, q, none⟩ V).drew).grownBy w3 vw.ownBlock) :
    RS n A c l Bg Bs Bw gs base Pr (ws.set q z) (wk ++ [x]) (w3.setCell ⟨Bw, 0, none⟩ v1) ∧ (∀ k, Pr k → (w3.setCell ⟨Bw, 0, none⟩ v1).heap[k]? = W.heap[k]?) ∧ (∀ N, N ≤ gs → N ≤ Bw → N ≤ base → Below N W (w3.setCell ⟨Bw, 0, none⟩ v1)) ∧ KeepsOthers W (w3.setCell ⟨Bw, 0, none⟩ v1) := by
  obtain ⟨nd, rfl⟩ := hd
  have hsz : ((W.drewN nd).setCell ⟨gs, q, none⟩ V).drew.heap.size = W.heap.size := by simp
  have hgs := blk_lt hS.hc
  have hBw := blk_lt hvw
  have ngw : gs ≠ Bw := by intro e; have h1 := hS.hc; rw [e, hvw] at h1; simp at h1
  have ngg : Bg ≠ gs := by intro e; have h1 := hS.hg; rw [e, hS.hc] at h1; simp at h1
  have nsg : Bs ≠ gs := by intro e; have h1 := hS.hs; rw [e, hS.hc] at h1; simp at h1
  have ngb : Bg ≠ Bw := by intro e; have h1 := hS.hg; rw [e, hvw] at h1; simp at h1
  have nsb : Bs ≠ Bw := by intro e; have h1 := hS.hs; rw [e, hvw] at h1; simp at h1
  have oth : ∀ k, k < W.heap.size → k ≠ gs → k ≠ Bw → some k ≠ vw.ownBlock → (w3.setCell ⟨Bw, 0, none⟩ v1).heap[k]? = W.heap[k]? := fun k hk h1 h2 h3 =>
    (Below.heap_setCell w3 ⟨Bw, 0, none⟩ v1 k h2).trans ((hg.block k (by rw [hsz]; exact hk) h3).trans (Below.heap_setCell (W.drewN nd) ⟨gs, q, none⟩ V k h1))
  refine ⟨⟨?_, ?_, ?_, ⟨v1, ?_, ?_⟩, ?_, hz⟩, ?_, ?_, ?_⟩
  · exact (oth Bg (blk_lt hS.hg) ngg ngb (Kd.R_ne hr hS.hg (by decide))).trans hS.hg
  · rw [List.length_set]
    exact (oth Bs (blk_lt hS.hs) nsg nsb (Kd.R_ne hr hS.hs (by decide))).trans hS.hs
  · have h1 : ((W.drewN nd).setCell ⟨gs, q, none⟩ V).heap[gs]? = some (.cells (((ws.set q z).map fun x : Nat => Value.int .u64 (x : Int)).toArray) 87 (0, 0)) := by
      rw [← words_set, ← hV]
      exact blk_put (show (W.drewN nd).heap[gs]? = _ from hS.hc) q V rfl
    exact (Below.heap_setCell w3 ⟨Bw, 0, none⟩ v1 gs ngw).trans ((hg.block gs (by rw [hsz]; exact hgs) (Kd.R_ne hr hS.hc (by decide))).trans h1)
  · have h1 : w3.heap[Bw]? = some (.cells #[vw] 31) := (hg.block Bw (by rw [hsz]; exact hBw) (Kd.R_ne hr hvw (by decide))).trans ((Below.heap_setCell (W.drewN nd) ⟨gs, q, none⟩ V Bw (Ne.symm ngw)).trans hvw)
    exact blk_put h1 0 v1 rfl
  · have h1 : w3.heap[Bw]? = some (.cells #[vw] 31) := (hg.block Bw (by rw [hsz]; exact hBw) (Kd.R_ne hr hvw (by decide))).trans ((Below.heap_setCell (W.drewN nd) ⟨gs, q, none⟩ V Bw (Ne.symm ngw)).trans hvw)
    exact Kd.R_set hF h1 (by decide) 0 v1
  · intro k hk
    obtain ⟨p1, p2, p3⟩ := hS.pr k hk
    refine ⟨?_, p2, p3⟩
    have := hg.size
    rw [hsz] at this
    simp
    omega
  · intro k hk
    obtain ⟨p1, p2, p3⟩ := hS.pr k hk
    exact oth k p1 p2 p3 (fun e => hr.1 k e.symm hk)
  · intro N h1 h2 h3
    have b1 : Below N W ((W.drewN nd).setCell ⟨gs, q, none⟩ V).drew := below_drew1 ((pw_below_drewN (Below.refl N W) nd).setCell (p := ⟨gs, q, none⟩) h1 V)
    have b2 : Below N W w3 := b1.grown hg (by rw [hsz]; omega) (fun k hk => Nat.le_trans h3 (Kd.R_base hr k hk))
    exact b2.setCell (p := ⟨Bw, 0, none⟩) h2 v1
  · refine ⟨?_, fun k o hk ho => (oth k (blk_lt hk) ?_ ?_ ?_).trans hk⟩
    · have := hg.size
      rw [hsz] at this
      simp
      omega
    · intro e; subst e; rw [hS.hc] at hk; cases hk; simp [Obj.isCells] at ho
    · intro e; subst e; rw [hvw] at hk; cases hk; simp [Obj.isCells] at ho
    · intro e
      obtain ⟨inner, hown⟩ := Kd.R_own hr
      obtain ⟨cs, hcs⟩ := own_typed hown k e.symm
      rw [hcs] at hk; cases hk; simp [Obj.isCells] at ho
set_option maxRecDepth 100000 in
set_option maxHeartbeats 2000000 in
theorem add_calls (v n : Int) (A : Option Addr) (c : Nat) (l : List S53) (Bg Bs Bw gs base : Nat) (Pr : Nat → Prop) (ws : List Nat) (wk : List Int) (W : World) (hS : RS n A c l Bg Bs Bw gs base Pr ws wk W) (hn0 : 0 ≤ n) (hn1 : n ≤ 8192) (hn : n < 64 * ws.length) (hwl : ws.length ≤ 1000) (hbase : base ≤ W.heap.size) (hb1 : base ≤ gs) (hb2 : base ≤ Bw) (hkl : wk.length ≤ 1000000) :
    Calls Tryd.prog 71 #[.int .i64 v, .pointer (some ⟨Bg, 0, none⟩), .pointer (some ⟨Bs, 0, none⟩), .pointer (some ⟨Bw, 0, none⟩)] W fun e W' => e = .returned (.tuple #[]) ∧
      RS n A c l Bg Bs Bw gs base Pr (addF n (ws, wk) v).1 (addF n (ws, wk) v).2 W' ∧ (∀ k, Pr k → W'.heap[k]? = W.heap[k]?) ∧ (∀ N, N ≤ gs → N ≤ Bw → N ≤ base → Below N W W') ∧ KeepsOthers W W' := by
  have cg0 : W.cell? ⟨Bg, 0, none⟩ = some (.int .i64 n) := (blk_cell hS.hg 0).trans rfl
  have cs0 : W.cell? ⟨Bs, 0, none⟩ = some (.slice (some ⟨gs, 0, none⟩) ws.length ws.length) := (blk_cell hS.hs 0).trans rfl
  have HS := As2.mk hS
  have BB := As2.mk hbase
  clear hS hbase
  by_cases h0 : 0 ≤ v
  · by_cases h1 : v < n
    · obtain ⟨x, rfl⟩ := Int.eq_ofNat_of_zero_le h0
      have hx64 : x / 64 < ws.length := by omega
      by_cases h2 : hasN ws x = true
      · have E := As2.mk (show addF n (ws, wk) (x : Int) = (ws, wk) by unfold addF; rw [if_neg]; simp [h2])
        have HF := As2.mk (show bits_Has.f (ws.map Int.ofNat) (x : Int) = some true by rw [has_f ws x (by omega) HS.out.lt, h2])
        have HC := As2.mk (words_C HS.out.hc (by omega))
        have e1 : (ws.map Int.ofNat).length = ws.length := by simp
        have HL := As2.mk e1
        clear h2 e1
        go_enter Tryd.func71, Tryd.ntmps71
        go_wp2_with (go_at_call 72; rw [← HL.out]; refine (bits_Has.calls _ _ _ (x : Int) true _ HC.out (Nat.le_refl _) HF.out).mono ?_; rintro e w1 ⟨rfl, ⟨nd, rfl⟩⟩)
        go_end0
        exact ⟨rfl, by rw [E.out]; exact HS.out.drewN nd, fun _ _ => rfl, fun N _ _ h3 => pw_below_drewN (Below.refl _ _) nd, ⟨Nat.le_refl _, fun _ _ h _ => h⟩⟩
      · have h2' : hasN ws x = false := by simpa using h2
        have E := As2.mk (show addF n (ws, wk) (x : Int) = (setN ws x, wk ++ [(x : Int)]) by unfold addF; rw [if_pos ⟨h0, h1, by simpa using h2'⟩]; simp)
        have HF := As2.mk (show bits_Has.f (ws.map Int.ofNat) (x : Int) = some false by rw [has_f ws x (by omega) HS.out.lt, h2'])
        have HC := As2.mk (words_C HS.out.hc (by omega))
        have e1 : (ws.map Int.ofNat).length = ws.length := by simp
        have HL := As2.mk e1
        have cw : W.cell? ⟨gs, x / 64, none⟩ = some (.int .u64 (ws.getD (x / 64) 0 : Nat)) := by
          rw [blk_cell HS.out.hc]
          simp [hx64]
        have fw : W.frozen? ⟨gs, x / 64, none⟩ = false := blk_frozen HS.out.hc _
        have hyw : ws.getD (x / 64) 0 < 18446744073709551616 := by
          have : ws.getD (x / 64) 0 = ws[x / 64] := by simp [hx64]
          rw [this]; exact HS.out.lt _ (List.getElem_mem hx64)
        have hb64 : x % 64 < 64 := by omega
        have hor := As2.mk (or_word (ws.getD (x / 64) 0) (x % 64) hyw hb64)
        have hne : Bw ≠ gs := by
          intro e
          obtain ⟨vw, h1, _⟩ := HS.out.hw
          rw [e, HS.out.hc] at h1
          simp at h1
        have hne2 : gs ≠ Bw := fun e => hne e.symm
        have e2 : Int.tdiv (x : Int) 64 = ((x / 64 : Nat) : Int) := by simp [Int.tdiv_eq_ediv]
        have e3 : Int.tmod (x : Int) 64 = ((x % 64 : Nat) : Int) := by simp [Int.tmod_eq_emod]
        generalize hy : ws.getD (x / 64) 0 = y at cw hyw hor
        generalize hq : x / 64 = q at cw fw hx64 hy e2
        generalize hb : x % 64 = b at hb64 hor e3
        have HQ := As2.mk (And.intro hq (And.intro hb hy))
        have hsh : IntKind.u64.wrap ((1 : Int) * 2 ^ (b : Int).toNat) = ((2 ^ b : Nat) : Int) := by
          have : 2 ^ b < 2 ^ 64 := Nat.pow_lt_pow_right (by omega) hb64
          rw [IntKind.wrap_u64, Int.toNat_natCast, Int.one_mul]
          have e : ((2 : Int) ^ b) = ((2 ^ b : Nat) : Int) := by simp
          rw [e]
          have h3 : ((2 ^ b : Nat) : Int) < ((18446744073709551616 : Nat) : Int) := Int.ofNat_lt.2 (Nat.lt_of_lt_of_eq this rfl)
          exact Int.emod_eq_of_lt (Int.natCast_nonneg _) h3
        have hwr : IntKind.i64.wrap (q : Int) = (q : Int) := by rw [IntKind.wrap_i64]; omega
        have hqi : (q : Int) < (ws.length : Int) := by omega
        clear h2 h2' hq hb hy e1
        obtain ⟨vw, hvw, hrw⟩ := HS.out.hw
        have VW := As2.mk hvw
        have RW := As2.mk hrw
        have c3 : W.cell? ⟨Bw, 0, none⟩ = some vw := (blk_cell hvw 0).trans rfl
        have hsz : gs < W.heap.size := blk_lt HS.out.hc
        have hsz2 : Bw < W.heap.size := blk_lt hvw
        clear hvw hrw
        go_enter Tryd.func71, Tryd.ntmps71
        go_wp2_with (go_at_call 72; rw [← HL.out]; refine (bits_Has.calls _ _ _ (x : Int) false _ HC.out (Nat.le_refl _) HF.out).mono ?_; rintro e w1 ⟨rfl, hnd⟩; have ds0 : w1.cell? ⟨Bs, 0, none⟩ = some (.slice (some ⟨gs, 0, none⟩) ws.length ws.length) := (by obtain ⟨nd, rfl⟩ := hnd; exact cs0); have dw : w1.cell? ⟨gs, q, none⟩ = some (.int .u64 (y : Nat)) := (by obtain ⟨nd, rfl⟩ := hnd; exact cw); have df : w1.frozen? ⟨gs, q, none⟩ = false := (by obtain ⟨nd, rfl⟩ := hnd; exact fw); have d3 : w1.cell? ⟨Bw, 0, none⟩ = some vw := (by obtain ⟨nd, rfl⟩ := hnd; exact c3); have gb : w1.heap[gs]? = some (.cells ((ws.map fun x : Nat => Value.int .u64 (x : Int)).toArray) 87 (0, 0)) := (by obtain ⟨nd, rfl⟩ := hnd; exact HS.out.hc); have gw : w1.heap[Bw]? = some (.cells #[vw] 31) := (by obtain ⟨nd, rfl⟩ := hnd; exact VW.out); have GB := As2.mk gb; have GW := As2.mk gw; have hbase1 : base ≤ w1.heap.size := (by obtain ⟨nd, rfl⟩ := hnd; exact BB.out); have RW1 := As2.mk (show Kd.R (Kd.int .i64) 3 w1 base (fun k => ¬ Pr k) vw wk by obtain ⟨nd, rfl⟩ := hnd; exact Kd.R_drewN RW.out nd); have hsz1 := blk_lt gb; have hsz3 := blk_lt gw; clear gb gw; have DW := As2.mk hnd; clear hnd)
        refine wp_region_still_tail 10 (by kernel_rfl) (by kernel_rfl) ?_
        simp only [List.take_succ_cons, List.take_zero, List.drop_succ_cons, List.drop_zero]
        still_step
        still_step
        still_step
        still_step
        still_step
        still_step
        still_step
        still_step
        still_step
        still_step
        refine wpStill_nil ?_
        go_wp2_with ((with_reducible refine gate_builtin (b := .append) (xs := #[.tmp 29, .tmp 31]) rfl ?_); at_builtin; change wpList _ _ _ _ _ (World.alloc (World.drew (World.setCell w1 _ _)) _); go_must (refine Kd.R_append (Kd.int .i64) (w0 := w1) base rfl (.tmp 29) (.tmp 31) 31 3 (.int .i64 0) 8 rfl Tryd.underlying31 infoI3 rfl (by decide) (by omega) vw wk (x : Int) [.int .i64 x] (fun k => ¬ Pr k) (fun _ => False) ?a0 ?aX ?aP (fun _ hk => hk.elim) ?aF ?aO ?aB ?aS ?aL ?_); (case a0 => rfl); (case aX => go_must (first | exact rfl | exact congrArg (fun z => Value.slice (some ⟨z, 0, none⟩) 1 1) (by simp))); (case aP => exact rfl); (case aB => exact below_drew1 ((Below.refl base w1).setCell (p := ⟨gs, q, none⟩) hb1 _)); (case aF => intro k hk hp; have h1 := (HS.out.pr k hp).1; simp at hk; obtain ⟨nd, rfl⟩ := DW.out; simp at hk; omega); (case aO => go_must (exact (by (with_reducible repeat (first | apply Kd.R_alloc | apply Kd.R_drewN | apply Kd.R_drew)); exact Kd.R_set RW1.out GB.out (by decide) q _))); (case aS => simp; omega); (case aL => omega); intro v1 w3 ho hb hg hat; obtain ⟨A1, c1, hv1⟩ := Kd.R_slice ho; subst hv1; have F := As2.mk ho; have GR := As2.mk hg; have AT := As2.mk hat; have gw3 : w3.heap[Bw]? = some (.cells #[vw] 31) := (hg.block Bw (by simp; omega) (Kd.R_ne RW1.out GW.out (by decide))).trans ((Below.heap_setCell w1 ⟨gs, q, none⟩ _ Bw hne).trans GW.out); have k3 : w3.cell? ⟨Bw, 0, none⟩ = some vw := (blk_cell gw3 0).trans rfl; have f3 := blk_frozen gw3 0; have GW3 := As2.mk gw3; clear ho hb hg hat gw3)
        go_end0
        have hq := HQ.out.1
        have hbb := HQ.out.2.1
        have hyy := HQ.out.2.2
        have hs : setN ws x = ws.set q (y ||| 2 ^ b) := by unfold setN; rw [hq, hbb, hyy]
        rw [E.out, hs]
        refine ⟨rfl, add_end HS.out hb1 hb2 DW.out ?hV (by rw [← hs]; exact setN_lt ws x HS.out.lt) VW.out RW.out (by simpa using F.out) GR.out⟩
        rw [← hor.out]
        congr 2
        simpa using hsh
    · have E := As2.mk (show addF n (ws, wk) v = (ws, wk) by unfold addF; rw [if_neg]; simp; omega)
      go_enter Tryd.func71, Tryd.ntmps71
      go_wp2_with fail
      go_end0
      exact ⟨rfl, by rw [E.out]; exact HS.out, fun _ _ => rfl, fun N _ _ h3 => Below.refl _ _, ⟨Nat.le_refl _, fun _ _ h _ => h⟩⟩
  · have E := As2.mk (show addF n (ws, wk) v = (ws, wk) by unfold addF; rw [if_neg]; simp; omega)
    go_enter Tryd.func71, Tryd.ntmps71
    go_wp2_with fail
    go_end0
    exact ⟨rfl, by rw [E.out]; exact HS.out, fun _ _ => rfl, fun N _ _ h3 => Below.refl _ _, ⟨Nat.le_refl _, fun _ _ h _ => h⟩⟩
end Go.Proofs.YtfgbkklhjocmjaaDoor.Xq
