/- Lists of words and of truths as a caller hands them over. -/
import Derived.Test.YtodncnlnadgkhabRoGraph
import Derived.Test.YtodncnlnadgkhabSaWords
set_option linter.unusedVariables false
set_option linter.unusedSimpArgs false
namespace Go.Proofs.Ytodncnlnadgkhab
open Go.ChangeShapes Go.WideShapes Go.ChangeAt Go.RowKit Go.Ab
theorem rdWords : ReadsAs Try.prog 63 (pSl (pInt .u64)) := readsAs_slice Try.underlying63 (by decide +kernel) (readsAs_int Try.underlying90)
theorem open_words {B : Nat} {avs : List AV} (h : pSl (pInt .u64) B avs) : ∃ (n : Nat) (f : Nat → AV) (x : Nat → Int), avs = [.fs n f] ∧ n ≤ B ∧ (∀ i, i < n → f i = .int .u64 (x i)) ∧ ∀ k, U64 (x k) := by
  obtain ⟨n, f, x, rfl, hn, hx⟩ := open_ints h
  refine ⟨n, f, fun k => if k < n then x k else 0, rfl, hn, fun i hi => ?_, fun k => ?_⟩
  · simp only [if_pos hi]; exact (hx i hi).1
  · by_cases h : k < n
    · simp only [if_pos h]; exact (hx k h).2
    · simp only [if_neg h]; exact ⟨by decide, by decide⟩
theorem rdBools : ReadsAs Try.prog 69 (pSl pBool) := readsAs_slice Try.underlying69 (by decide +kernel) (readsAs_bool Try.underlying4)
theorem rdRows : ReadsAs Try.prog 92 (pSl (pSl pBool)) := readsAs_slice Try.underlying92 (by decide +kernel) rdBools
theorem open_bools {B : Nat} {avs : List AV} (h : pSl pBool B avs) : ∃ (n : Nat) (f : Nat → AV) (x : Nat → Bool), avs = [.fs n f] ∧ n ≤ B ∧ ∀ i, i < n → f i = .bool (x i) := by
  obtain ⟨n, f, rfl, hn, hf⟩ := h
  obtain ⟨x, hx⟩ := choose_lt (α := Bool) (q := fun i z => f i = .bool z) (n := n) fun i hi => by
    obtain ⟨a, h1, s, rfl⟩ := hf i hi
    exact ⟨s, h1⟩
  exact ⟨n, f, x, rfl, hn, hx⟩
theorem open_rows {B : Nat} (hB : B ≤ 1048576) {avs : List AV} (h : pSl (pSl pBool) B avs) : ∃ (n : Nat) (f : Nat → AV) (L : Nat → Nat) (g : Nat → Nat → AV) (t : Nat → Nat → Bool), avs = [.fs n f] ∧ n ≤ 1048576 ∧ ∀ i, i < n → f i = .fs (L i) (g i) ∧ L i ≤ 1048576 ∧ ∀ j, j < L i → g i j = .bool (t i j) := by
  obtain ⟨n, f, rfl, hn, hf⟩ := h
  obtain ⟨x, hx⟩ := choose_lt (α := Nat × (Nat → AV) × (Nat → Bool)) (q := fun i z => f i = .fs z.1 z.2.1 ∧ z.1 ≤ 1048576 ∧ ∀ j, j < z.1 → z.2.1 j = .bool (z.2.2 j)) (n := n) fun i hi => by
    obtain ⟨a, h1, h2⟩ := hf i hi
    obtain ⟨m, q, y, rfl, hm, hy⟩ := open_bools h2
    exact ⟨(m, q, y), h1, Nat.le_trans hm hB, hy⟩
  exact ⟨n, f, fun i => (x i).1, fun i => (x i).2.1, fun i => (x i).2.2, rfl, Nat.le_trans hn hB, hx⟩
end Go.Proofs.Ytodncnlnadgkhab
