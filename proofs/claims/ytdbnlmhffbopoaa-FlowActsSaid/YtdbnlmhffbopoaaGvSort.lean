/- The contract of slices.SortFunc at pairs with flow.compare. Condition: fewer than 2^62 elements. -/
import Derived.Test.YtdbnlmhffbopoaaGvCmp
import Derived.Test.YtdbnlmhffbopoaaGvRow
import Derived.Test.YtdbnlmhffbopoaaGvLay
import Derived.Shelf.SlSortCmp.WholeK
import Derived.Shelf.Small.Bits
set_option linter.unusedVariables false
set_option linter.unusedSimpArgs false
namespace Go.Proofs.Ytdbnlmhffbopoaa.Gv
open Go.RowKit Go.Lib Go.Sort Go.Shelf

def cmpP (x y : Int × Int) : Int := orI (cmpI x.1 y.1) (cmpI x.2 y.2)
def ltP (x y : Int × Int) : Bool := decide (x.1 < y.1 ∨ (x.1 = y.1 ∧ x.2 < y.2))
theorem lt_cmpP (x y : Int × Int) : ltOf cmpP x y = ltP x y := by
  unfold ltOf cmpP ltP orI cmpI
  by_cases h1 : x.1 < y.1
  · simp [h1]
  · by_cases h2 : y.1 < x.1
    · have : ¬ x.1 = y.1 := by omega
      simp [h1, h2, this]
    · have e : x.1 = y.1 := by omega
      by_cases h3 : x.2 < y.2
      · simp [e, h3]
      · by_cases h4 : y.2 < x.2 <;> simp [e, h3, h4]
theorem lt_cmpP' : ltOf cmpP = ltP := funext fun x => funext fun y => lt_cmpP x y
theorem swoP : SWO (ltOf cmpP) where
  irrefl x := by rw [lt_cmpP]; simp [ltP]
  trans x y z h1 h2 := by rw [lt_cmpP] at *; simp [ltP] at *; omega
  ntrans x y z h1 h2 := by rw [lt_cmpP] at *; simp [ltP] at *; omega

/-- what the sort makes of a row -/
def srtP (d : Array (Int × Int)) : Array (Int × Int) := pdq (ltOf cmpP) d 0 d.size (Lib.bitLen d.size) true true

theorem cmpLaysP (blk off size : Nat) (w : World) : CmpLays Try.prog 31 #[] encP 2 cmpP blk off size w :=
  fun _ _ _ _ x y => (flow_compare_calls x.1 x.2 y.1 y.2 _).mono fun e w' h => ⟨h.1, by
    obtain ⟨n, o1, o2, o3, rfl⟩ := h.2
    exact ⟨n, #[o1, o2, o3], by rw [alloc_eq_grow, alloc_eq_grow, alloc_eq_grow, grow_grow, grow_grow]; rfl⟩⟩

theorem isAgg44 (w : World) : (isAgg 44).run Try.prog w = .ok true w := by kernel_rfl
theorem sizeOf44 (w : World) : (Go.sizeOf 44).run Try.prog w = .ok 2 w := by kernel_rfl

set_option maxHeartbeats 1000000 in
theorem sortFunc_calls (blk off cap : Nat) (d : Array (Int × Int)) (w : World) (hH : HoldsK encP 2 w blk off d) (hblk : blk < w.heap.size) (hsz : d.size < 4611686018427387904) :
    Calls Try.prog 43 #[.slice (some ⟨blk, off, none⟩) d.size cap, .func (.func 31) #[] #[]] w fun e w' => e = .returned (.tuple #[]) ∧ ∃ n os, w' = sortWorldK encP 2 w blk off n (srtP d) os := by
  have eg : ∀ args w, (callFunc 31 args).run Try.prog w = .ok (.enter 31 args) w := enters_of Try.func31 (by kernel_rfl) rfl
  have hlim : Lib.bitLen d.size < 4611686018427387904 := Nat.lt_of_le_of_lt (Lib.bitLen_le d.size 62 (by omega) (by omega)) (by omega)
  have hp := AnyQ.pdqsortCmpFunc_all Try.pdqP 2 isAgg44 sizeOf44 encP cmpP 31 #[] swoP blk off cap d w eg (cmpLaysP blk off d.size w) ⟨encP_len, encP_one, hH, hblk⟩ (d.size + 1) 0 d.size (Lib.bitLen d.size) d w (by omega) rfl (SWK.start hH) (Nat.zero_le _) (Nat.le_refl _) hsz hlim (Or.inl rfl)
  change Calls Try.prog 54 _ _ _ at hp
  have hl : Calls Try.prog 48 #[.int .u64 (d.size : Int)] w fun e w' => e = .returned (.int .i64 (Lib.bitLen d.size : Nat)) ∧ w' = w := by
    have h := Any.bits_Len Try.bitsLen (d.size : Int) w (by omega) (by omega)
    rwa [Int.toNat_natCast] at h
  have wr : IntKind.u64.wrap (d.size : Int) = d.size := by simp [IntKind.wrap, IntKind.bits, IntKind.signed]; omega
  have hpost : ∀ w', SWK encP 2 w blk off (pdq (ltOf cmpP) d 0 d.size (Lib.bitLen d.size) true true) w' → ∃ n os, w' = sortWorldK encP 2 w blk off n (srtP d) os := fun w' h => h
  generalize pdq (ltOf cmpP) d 0 d.size (Lib.bitLen d.size) true true = pd at hp hpost
  generalize srtP d = sd at hpost ⊢
  clear hH
  go_enter Try.func43, Try.ntmps43
  go_wp2_with (first | (go_at_call 48; refine hl.mono ?_; rintro e w' ⟨rfl, rfl⟩) | (go_at_call 54; refine hp.mono ?_; rintro e w' ⟨rfl, h⟩))
  go_end0
  exact ⟨rfl, hpost _ h⟩
end Go.Proofs.Ytdbnlmhffbopoaa.Gv
