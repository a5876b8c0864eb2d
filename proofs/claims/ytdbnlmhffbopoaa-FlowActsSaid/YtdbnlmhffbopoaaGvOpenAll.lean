/- How arguments that are slices of pairs or of numbers read. No condition. -/
import Derived.Test.YtdbnlmhffbopoaaGvSorted
import Derived.Test.YtdbnlmhffbopoaaWSized
import Derived.Deep.SlicePairs
import Derived.ProofKit
import Derived.SizedLaws
set_option linter.unusedVariables false
set_option linter.unusedSimpArgs false
namespace Go.Proofs.Ytdbnlmhffbopoaa.Xq
open Go.RowKit Go.ChangeShapes Go.WideShapes Go.Deep Go.Proofs.YtdbnlmhffbopoaaW.PrintWords

/-- a slice of pairs that is read: its list, how long it may be -/
def PairRow (w : World) (a : Option Addr) (len cap : Nat) (l : List S44) : Prop :=
  l.length = len ∧ len ≤ cap ∧ len * 16 ≤ 140737488351232 ∧ Kd.C k44 w a len l ∧ ∀ x ∈ l, (Lit.int .i64 x.f0).wf = true ∧ (Lit.int .i64 x.f1).wf = true

theorem open_pairs {H : Type} {enc : TypeId × Value → H} {W : World} {base : Nat} {spare : Nat → Bool} {held : Bool} {t : TypeId} {a : Option Addr} {len cap : Nat} {d : DataW H} {ps : List MemPlace} {ts : List TypeId} {ds : List (DataW H)} {j : Nat}
    (hsz : (DataW.weightsEach Try.prog ts ds).all (· ≤ reachBytes) = true) (ht : ts[j]? = some t) (hd : ds[j]? = some d) (hu : Try.prog.underlying t = some (.slice 44))
    (h : DataW.Trod enc Try.prog W base spare held t (.slice a len cap) d ps) : ∃ l, PairRow W a len cap l := by
  obtain ⟨fuel, hf⟩ := h
  rcases open_slice_pairs hu Try.underlying44 (by kernel_rfl) rfl rfl (by kernel_rfl) (by kernel_rfl) hf with ⟨hcs, _⟩ | ⟨ad, len', cap', m, n, V0, V1, D0, D1, P0, P1, hcs, _, hl, hm, hmm, hx, hc⟩
  · simp [Value.cells] at hcs
    obtain ⟨rfl, rfl, rfl⟩ := hcs
    exact ⟨[], rfl, Nat.le_refl _, by omega, Kd.C_nil _ _, by simp⟩
  · simp [Value.cells] at hcs
    obtain ⟨rfl, rfl, rfl⟩ := hcs
    have hlm : len ≤ m := by rw [hmm]; split <;> omega
    obtain ⟨hx, _⟩ := Prod.mk.inj hx
    subst hx
    have z := sized_slice hsz ht hd hu
    rw [show Try.prog.bytesOf 44 = 16 by kernel_rfl] at z
    have hlen : len * 16 ≤ 140737488351232 := by
      refine Nat.le_trans ?_ z
      refine Nat.mul_le_mul_right _ ?_
      simp
    have each : ∀ i, i < len → ∃ q : Int × Int, V0 i = .int .i64 q.1 ∧ V1 i = .int .i64 q.2 ∧ (Lit.int .i64 q.1).wf = true ∧ (Lit.int .i64 q.2).wf = true := by
      intro i hi
      obtain ⟨_, _, h0, h1⟩ := hc i (by omega)
      obtain ⟨x0, e0, _, w0⟩ := DataW.trod_int Try.underlying3 h0
      obtain ⟨x1, e1, _, w1⟩ := DataW.trod_int Try.underlying3 h1
      simp at e0 e1
      exact ⟨(x0, x1), e0, e1, w0, w1⟩
    obtain ⟨q, hq⟩ := choose_lt each
    refine ⟨(List.range len).map fun i => ofP (q i), by simp, hl, hlen, ⟨by simp, by omega, fun hn => ⟨ad, rfl, fun i p hp => ?_⟩⟩, ?_⟩
    · rw [List.getElem?_map, Option.map_eq_some_iff] at hp
      obtain ⟨i', hi', rfl⟩ := hp
      have hlt : i < len := by
        have := (List.getElem?_eq_some_iff.1 hi').1
        simpa using this
      have : i' = i := by rw [List.getElem?_range hlt] at hi'; exact (Option.some.inj hi').symm
      subst this
      obtain ⟨c0, c1, _, _⟩ := hc i' (by omega)
      obtain ⟨e0, e1, _, _⟩ := hq i' hlt
      refine ⟨[.int .i64 (ofP (q i')).f0, .int .i64 (ofP (q i')).f1], rfl, k44_mk _ _, fun t u hu => ?_⟩
      match t, hu with
      | 0, hu => simp at hu; subst hu; rw [← show V0 i' = .int .i64 (ofP (q i')).f0 from e0]; exact c0
      | 1, hu => simp at hu; subst hu; rw [← show V1 i' = .int .i64 (ofP (q i')).f1 from e1]; exact c1
      | t + 2, hu => simp at hu
    · intro x hx
      obtain ⟨i, hi, rfl⟩ := List.mem_map.1 hx
      obtain ⟨_, _, w0, w1⟩ := hq i (List.mem_range.1 hi)
      exact ⟨w0, w1⟩
end Go.Proofs.Ytdbnlmhffbopoaa.Xq
set_option linter.unusedVariables false
set_option linter.unusedSimpArgs false
namespace Go.Proofs.Ytdbnlmhffbopoaa.Xq
open Go.RowKit Go.ChangeShapes Go.WideShapes Go.ChangeAt Go.Deep Go.Proofs.YtdbnlmhffbopoaaW.PrintWords

/-- a slice of numbers that is read: its list, how long it may be -/
def NumRow (w : World) (a : Option Addr) (len cap : Nat) (l : List Int) : Prop :=
  l.length = len ∧ len ≤ cap ∧ len * 8 ≤ 140737488351232 ∧ Kd.C (Kd.int .i64) w a len l ∧ ∀ x ∈ l, (Lit.int .i64 x).wf = true

theorem open_numbers {H : Type} {enc : TypeId × Value → H} {W : World} {base : Nat} {spare : Nat → Bool} {held : Bool} {t : TypeId} {a : Option Addr} {len cap : Nat} {d : DataW H} {ps : List MemPlace} {ts : List TypeId} {ds : List (DataW H)} {j : Nat}
    (hsz : (DataW.weightsEach Try.prog ts ds).all (· ≤ reachBytes) = true) (ht : ts[j]? = some t) (hd : ds[j]? = some d) (hu : Try.prog.underlying t = some (.slice 3))
    (h : DataW.Trod enc Try.prog W base spare held t (.slice a len cap) d ps) : ∃ l, NumRow W a len cap l := by
  have y := sized_ints hsz ht hd hu Try.underlying3 (by kernel_rfl) (by kernel_rfl : Try.prog.bytesOf 3 = 8) h
  obtain ⟨zs, m, hcap, hz⟩ : ∃ (zs : List Int) (m : Nat), len ≤ cap ∧ ((a = none ∧ len = 0 ∧ m = 0 ∧ zs = []) ∨ ∃ x, a = some x ∧ len ≤ m ∧ m ≤ maxLen ∧ zs.length = m ∧ (∀ i, i < zs.length → W.cell? (x.add i) = some (.int .i64 (zs.getD i 0))) ∧ ∀ n ∈ zs, (Lit.int .i64 n).wf = true) := by
    obtain ⟨fuel, hf⟩ := h
    rcases open_ints hu Try.underlying3 (by kernel_rfl) hf with ⟨hcs, _⟩ | ⟨x, l, c, zs, hcs, _, hl, hm, hz, _, hcell, hwz⟩
    · simp [Value.cells] at hcs
      obtain ⟨rfl, rfl, rfl⟩ := hcs
      exact ⟨[], 0, Nat.le_refl _, .inl ⟨rfl, rfl, rfl, rfl⟩⟩
    · simp [Value.cells] at hcs
      obtain ⟨rfl, rfl, rfl⟩ := hcs
      exact ⟨zs, zs.length, hl, .inr ⟨_, rfl, by rw [hz]; split <;> omega, by rw [hz]; split <;> omega, rfl, hcell, hwz⟩⟩
  obtain ⟨l1, rfl, hr1, hm1, hw1, hc1⟩ := ReadsInt.ofRowC hz
  exact ⟨l1, rfl, hcap, y, Kd.C_of_reads (d := (0 : Int)) (h1 := fun _ => rfl) hr1, hw1⟩
end Go.Proofs.Ytdbnlmhffbopoaa.Xq
