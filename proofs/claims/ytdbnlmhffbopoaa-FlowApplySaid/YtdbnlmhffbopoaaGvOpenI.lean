/- How an argument that is a slice of numbers reads: a list of numbers, cell by cell, within the reach. No condition. -/
import Derived.Test.YtdbnlmhffbopoaaGvOpen
set_option linter.unusedVariables false
set_option linter.unusedSimpArgs false
namespace Go.Proofs.Ytdbnlmhffbopoaa.Xq
open Go.RowKit Go.ChangeShapes Go.WideShapes Go.ChangeAt Go.Deep Go.Proofs.YtdbnlmhffbopoaaW.PrintWords

/-- a slice of numbers that is read: its list, how long it may be -/
def NumRow (w : World) (a : Option Addr) (len cap : Nat) (l : List Int) : Prop :=
  l.length = len ∧ len ≤ cap ∧ len * 8 ≤ 140737488351232 ∧ Kd.C (Kd.int .i64) w a len l ∧ ∀ x ∈ l, (Lit.int .i64 x).wf = true

theorem open_numbers {H : Type} {enc : TypeId × Value → H} {W : World} {base : Nat} {spare : Nat → Bool} {held : Bool} {t : TypeId} {a : Option Addr} {len cap : Nat} {d : DataW H} {ps : List MemPlace} {ts : List TypeId} {ds : List (DataW H)} {j : Nat}
    (hsz : (DataW.weightsEach Try.prog ts ds).all (· ≤ reachBytes) = true) (ht : ts[j]? = some t) (hd : ds[j]? = some d) (hu : Try.prog.underlying t = some (.slice 3))
    (h : DataW.Trod enc Try.prog W base spare held t (.slice a len cap) d ps) : ∃ l, NumRow W a len cap l := by
  have y := sized_ints hsz ht hd hu Try.underlying3 (by kernel_rfl) (by kernel_rfl : Try.prog.bytesOf 3 = 8) h
  obtain ⟨zs, m, hcap, hz⟩ : ∃ (zs : List Int) (m : Nat), len ≤ cap ∧ ((a = none ∧ len = 0 ∧ m = 0 ∧ zs = []) ∨ ∃ x, a = some x ∧ len ≤ m ∧ m ≤ maxLen ∧ zs.length = m ∧ (∀ i, i < zs.length → W.cell? (x.add i) = some (.int .i64 (zs.getD i 0))) ∧ ∀ n ∈ zs, (Lit.int .i64 n).wf = true) := by
    obtain ⟨fuel, hf⟩ := h
    rcases open_ints hu Try.underlying3 (by kernel_rfl) hf with ⟨hcs, _⟩ | ⟨x, l, c, zs, hcs, _, hl, hm, hz, _, hcell, hwz⟩
    · simp [Value.cells] at hcs
      obtain ⟨rfl, rfl, rfl⟩ := hcs
      exact ⟨[], 0, Nat.le_refl _, .inl ⟨rfl, rfl, rfl, rfl⟩⟩
    · simp [Value.cells] at hcs
      obtain ⟨rfl, rfl, rfl⟩ := hcs
      exact ⟨zs, zs.length, hl, .inr ⟨_, rfl, by rw [hz]; split <;> omega, by rw [hz]; split <;> omega, rfl, hcell, hwz⟩⟩
  obtain ⟨l1, rfl, hr1, hm1, hw1, hc1⟩ := ReadsInt.ofRowC hz
  exact ⟨l1, rfl, hcap, y, Kd.C_of_reads (d := (0 : Int)) (h1 := fun _ => rfl) hr1, hw1⟩
end Go.Proofs.Ytdbnlmhffbopoaa.Xq
