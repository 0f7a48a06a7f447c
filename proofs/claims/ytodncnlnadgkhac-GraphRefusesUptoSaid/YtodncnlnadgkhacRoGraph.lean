/- Graphs as a caller hands them over. -/
import Derived.Test.YtodncnlnadgkhacRoBase
import Derived.Test.YtodncnlnadgkhacLwGraph
set_option linter.unusedVariables false
set_option linter.unusedSimpArgs false
namespace Go.Proofs.Ytodncnlnadgkhac
open Go.ChangeShapes Go.WideShapes Go.ChangeAt Go.RowKit Go.Ab

theorem rdStrs : ReadsAs Try.prog 28 (pSl pStr) := readsAs_slice Try.underlying28 (by decide +kernel) (readsAs_str Try.underlying9)
theorem rdLits : ReadsAs Try.prog 32 (pSl (pInt .i64)) := readsAs_slice Try.underlying32 (by decide +kernel) (readsAs_int Try.underlying35)
abbrev pReg : Pat := pAll [pStr, pInt .i64, pBool]
abbrev pNode : Pat := pAll [pInt .i64, pInt .i64]
abbrev pGra : Pat := pAll [pSl pStr, pSl pStr, pSl pReg, pSl pNode, pSl (pInt .i64)]
theorem rdReg : ReadsAs Try.prog 37 pReg := readsAs_struct Try.underlying37 (by decide +kernel) (.cons (readsAs_str Try.underlying9) (.cons (readsAs_int Try.underlying35) (.cons (readsAs_bool Try.underlying4) .nil)))
theorem rdNode : ReadsAs Try.prog 103 pNode := readsAs_struct Try.underlying103 (by decide +kernel) (.cons (readsAs_int Try.underlying35) (.cons (readsAs_int Try.underlying35) .nil))
theorem rdGra : ReadsAs Try.prog 34 pGra := readsAs_struct Try.underlying34 (by decide +kernel) (.cons rdStrs (.cons rdStrs (.cons (readsAs_slice Try.underlying30 (by decide +kernel) rdReg) (.cons (readsAs_slice Try.underlying31 (by decide +kernel) rdNode) (.cons rdLits .nil)))))

theorem open_strs {B : Nat} {avs : List AV} (h : pSl pStr B avs) : ∃ (n : Nat) (f : Nat → AV) (x : Nat → ByteArray), avs = [.fs n f] ∧ n ≤ B ∧ ∀ i, i < n → f i = .str (x i) ∧ (x i).size ≤ B := by
  obtain ⟨n, f, rfl, hn, hf⟩ := h
  obtain ⟨x, hx⟩ := choose_lt (α := ByteArray) (q := fun i z => f i = .str z ∧ z.size ≤ B) (n := n) fun i hi => by
    obtain ⟨a, h1, s, rfl, h2⟩ := hf i hi
    exact ⟨s, h1, h2⟩
  exact ⟨n, f, x, rfl, hn, hx⟩
theorem open_ints {k : IntKind} {B : Nat} {avs : List AV} (h : pSl (pInt k) B avs) : ∃ (n : Nat) (f : Nat → AV) (x : Nat → Int), avs = [.fs n f] ∧ n ≤ B ∧ ∀ i, i < n → f i = .int k (x i) ∧ k.min ≤ x i ∧ x i ≤ k.max := by
  obtain ⟨n, f, rfl, hn, hf⟩ := h
  obtain ⟨x, hx⟩ := choose_lt (α := Int) (q := fun i z => f i = .int k z ∧ k.min ≤ z ∧ z ≤ k.max) (n := n) fun i hi => by
    obtain ⟨a, h1, s, rfl, h2⟩ := hf i hi
    exact ⟨s, h1, h2⟩
  exact ⟨n, f, x, rfl, hn, hx⟩
theorem open_gra {B : Nat} (hB : B ≤ 1048576) {avs : List AV} (h : pGra B avs) : ∃ G, GraC avs G ∧ G.Ok := by
  obtain ⟨a0, r0, rfl, h0, a1, r1, rfl, h1, a2, r2, rfl, h2, a3, r3, rfl, h3, a4, r4, rfl, h4, rfl⟩ := h
  obtain ⟨n0, f0, x0, rfl, l0, k0⟩ := open_strs h0
  obtain ⟨n1, f1, x1, rfl, l1, k1⟩ := open_strs h1
  obtain ⟨n2, f2, rfl, l2, k2⟩ := h2
  obtain ⟨n3, f3, rfl, l3, k3⟩ := h3
  obtain ⟨n4, f4, x4, rfl, l4, k4⟩ := open_ints h4
  obtain ⟨x2, g2⟩ := choose_lt (α := RegV) (q := fun i z => f2 i = z.av ∧ z.name.size ≤ B ∧ L64 z.next) (n := n2) fun i hi => by
    obtain ⟨a, e1, b0, s0, rfl, ⟨s, rfl, hs⟩, b1, s1, rfl, ⟨x, rfl, hx⟩, b4, s4, rfl, ⟨t, rfl⟩, rfl⟩ := k2 i hi
    exact ⟨⟨s, x, t⟩, e1, hs, hx⟩
  obtain ⟨x3, g3⟩ := choose_lt (α := Int × Int) (q := fun i z => f3 i = .agg [.int .i64 z.1, .int .i64 z.2] ∧ L64 z.1 ∧ L64 z.2) (n := n3) fun i hi => by
    obtain ⟨a, e1, b0, s0, rfl, ⟨x, rfl, hx⟩, b1, s1, rfl, ⟨y, rfl, hy⟩, rfl⟩ := k3 i hi
    exact ⟨(x, y), e1, hx, hy⟩
  exact ⟨⟨n0, x0, n1, x1, n2, x2, n3, fun i => (x3 i).1, fun i => (x3 i).2, n4, x4⟩, ⟨f0, f1, f2, f3, f4, rfl, fun i hi => (k0 i hi).1, fun i hi => (k1 i hi).1, fun i hi => (g2 i hi).1, fun i hi => (g3 i hi).1, fun i hi => (k4 i hi).1⟩,
    ⟨Nat.le_trans l0 hB, Nat.le_trans l1 hB, Nat.le_trans l2 hB, Nat.le_trans l3 hB, Nat.le_trans l4 hB, fun i hi => Nat.le_trans (k0 i hi).2 hB, fun i hi => Nat.le_trans (k1 i hi).2 hB, fun i hi => ⟨Nat.le_trans (g2 i hi).2.1 hB, (g2 i hi).2.2⟩, fun i hi => (g3 i hi).2.1, fun i hi => (g3 i hi).2.2, fun i hi => (k4 i hi).2⟩⟩
theorem open_lits {B : Nat} {avs : List AV} (h : pSl (pInt .i64) B avs) : ∃ (n : Nat) (f : Nat → AV) (x : Nat → Int), avs = [.fs n f] ∧ n ≤ B ∧ ∀ i, i < n → f i = .int .i64 (x i) ∧ L64 (x i) := by
  obtain ⟨n, f, x, rfl, hn, hx⟩ := open_ints h
  exact ⟨n, f, x, rfl, hn, hx⟩
end Go.Proofs.Ytodncnlnadgkhac
