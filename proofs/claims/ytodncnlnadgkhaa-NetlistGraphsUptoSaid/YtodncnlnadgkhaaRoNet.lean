/- Netlists and cells as a caller hands them over. -/
import Derived.Test.YtodncnlnadgkhaaRoBase
import Derived.Test.YtodncnlnadgkhaaLwLevel
set_option linter.unusedVariables false
set_option linter.unusedSimpArgs false
namespace Go.Proofs.Ytodncnlnadgkhaa
open Go.ChangeShapes Go.WideShapes Go.ChangeAt Go.RowKit Go.Ab

theorem rdStrs : ReadsAs Try.prog 30 (pSl pStr) := readsAs_slice Try.underlying30 (by decide +kernel) (readsAs_str Try.underlying9)
theorem rdInts : ReadsAs Try.prog 26 (pSl (pInt .i64)) := readsAs_slice Try.underlying26 (by decide +kernel) (readsAs_int Try.underlying3)
abbrev pFlop : Pat := pAll [pStr, pInt .i64, pInt .i64, pInt .i64, pBool]
abbrev pGate : Pat := pAll [pInt .i64, pInt .u64, pSl (pInt .i64)]
abbrev pNet : Pat := pAll [pSl pStr, pSl pStr, pSl pFlop, pSl pGate, pSl (pInt .i64)]
abbrev pCell : Pat := pAll [pStr, pBool, pInt .i64, pInt .u64, pInt .i64, pSl (pInt .i64), pSl (pInt .i64), pSl (pInt .i64), pInt .i64, pInt .i64, pInt .i64]
theorem rdFlop : ReadsAs Try.prog 64 pFlop := readsAs_struct Try.underlying64 (by decide +kernel) (.cons (readsAs_str Try.underlying9) (.cons (readsAs_int Try.underlying3) (.cons (readsAs_int Try.underlying3) (.cons (readsAs_int Try.underlying3) (.cons (readsAs_bool Try.underlying4) .nil)))))
theorem rdGate : ReadsAs Try.prog 62 pGate := readsAs_struct Try.underlying62 (by decide +kernel) (.cons (readsAs_int Try.underlying3) (.cons (readsAs_int Try.underlying22) (.cons rdInts .nil)))
theorem rdNet : ReadsAs Try.prog 34 pNet := readsAs_struct Try.underlying34 (by decide +kernel) (.cons rdStrs (.cons rdStrs (.cons (readsAs_slice Try.underlying31 (by decide +kernel) rdFlop) (.cons (readsAs_slice Try.underlying32 (by decide +kernel) rdGate) (.cons rdInts .nil)))))
theorem rdCell : ReadsAs Try.prog 66 pCell := readsAs_struct Try.underlying66 (by decide +kernel) (.cons (readsAs_str Try.underlying9) (.cons (readsAs_bool Try.underlying4) (.cons (readsAs_int Try.underlying3) (.cons (readsAs_int Try.underlying22) (.cons (readsAs_int Try.underlying3) (.cons rdInts (.cons rdInts (.cons rdInts (.cons (readsAs_int Try.underlying3) (.cons (readsAs_int Try.underlying3) (.cons (readsAs_int Try.underlying3) .nil)))))))))))
theorem rdCells : ReadsAs Try.prog 51 (pSl pCell) := readsAs_slice Try.underlying51 (by decide +kernel) rdCell

theorem open_strs {B : Nat} {avs : List AV} (h : pSl pStr B avs) : ∃ (n : Nat) (f : Nat → AV) (x : Nat → ByteArray), avs = [.fs n f] ∧ n ≤ B ∧ ∀ i, i < n → f i = .str (x i) ∧ (x i).size ≤ B := by
  obtain ⟨n, f, rfl, hn, hf⟩ := h
  obtain ⟨x, hx⟩ := choose_lt (α := ByteArray) (q := fun i z => f i = .str z ∧ z.size ≤ B) (n := n) fun i hi => by
    obtain ⟨a, h1, s, rfl, h2⟩ := hf i hi
    exact ⟨s, h1, h2⟩
  exact ⟨n, f, x, rfl, hn, hx⟩
theorem open_ints {k : IntKind} {B : Nat} {avs : List AV} (h : pSl (pInt k) B avs) : ∃ (n : Nat) (f : Nat → AV) (x : Nat → Int), avs = [.fs n f] ∧ n ≤ B ∧ ∀ i, i < n → f i = .int k (x i) ∧ k.min ≤ x i ∧ x i ≤ k.max := by
  obtain ⟨n, f, rfl, hn, hf⟩ := h
  obtain ⟨x, hx⟩ := choose_lt (α := Int) (q := fun i z => f i = .int k z ∧ k.min ≤ z ∧ z ≤ k.max) (n := n) fun i hi => by
    obtain ⟨a, h1, s, rfl, h2⟩ := hf i hi
    exact ⟨s, h1, h2⟩
  exact ⟨n, f, x, rfl, hn, hx⟩

theorem open_net {B : Nat} (hB : B ≤ 1048576) {avs : List AV} (h : pNet B avs) : ∃ N, NetC avs N ∧ N.Ok := by
  obtain ⟨a0, r0, rfl, h0, a1, r1, rfl, h1, a2, r2, rfl, h2, a3, r3, rfl, h3, a4, r4, rfl, h4, rfl⟩ := h
  obtain ⟨n0, f0, x0, rfl, l0, k0⟩ := open_strs h0
  obtain ⟨n1, f1, x1, rfl, l1, k1⟩ := open_strs h1
  obtain ⟨n2, f2, rfl, l2, k2⟩ := h2
  obtain ⟨n3, f3, rfl, l3, k3⟩ := h3
  obtain ⟨n4, f4, x4, rfl, l4, k4⟩ := open_ints h4
  obtain ⟨x2, g2⟩ := choose_lt (α := FlopV) (q := fun i z => f2 i = z.av ∧ z.name.size ≤ B ∧ I64 z.cell ∧ I64 z.d ∧ I64 z.en) (n := n2) fun i hi => by
    obtain ⟨a, e1, b0, s0, rfl, ⟨s, rfl, hs⟩, b1, s1, rfl, ⟨x, rfl, hx⟩, b2, s2, rfl, ⟨y, rfl, hy⟩, b3, s3, rfl, ⟨z, rfl, hz⟩, b4, s4, rfl, ⟨t, rfl⟩, rfl⟩ := k2 i hi
    exact ⟨⟨s, x, y, z, t⟩, e1, hs, hx, hy, hz⟩
  obtain ⟨x3, g3⟩ := choose_lt (α := GateV) (q := fun i z => GateA (f3 i) z ∧ z.n ≤ B ∧ I64 z.cell ∧ U64 z.table ∧ ∀ k, k < z.n → I64 (z.ins k)) (n := n3) fun i hi => by
    obtain ⟨a, e1, b0, s0, rfl, ⟨x, rfl, hx⟩, b1, s1, rfl, ⟨y, rfl, hy⟩, b2, s2, rfl, hz, rfl⟩ := k3 i hi
    obtain ⟨n, q, z, rfl, hn, hq⟩ := open_ints hz
    exact ⟨⟨x, y, n, z⟩, ⟨q, e1, fun i hi => (hq i hi).1⟩, hn, hx, hy, fun k hk => (hq k hk).2⟩
  exact ⟨⟨n0, x0, n1, x1, n2, x2, n3, x3, n4, x4⟩, ⟨f0, f1, f2, f3, f4, rfl, fun i hi => (k0 i hi).1, fun i hi => (k1 i hi).1, fun i hi => (g2 i hi).1, fun i hi => (g3 i hi).1, fun i hi => (k4 i hi).1⟩,
    ⟨Nat.le_trans l0 hB, Nat.le_trans l1 hB, Nat.le_trans l2 hB, Nat.le_trans l3 hB, Nat.le_trans l4 hB, fun i hi => Nat.le_trans (k0 i hi).2 hB, fun i hi => Nat.le_trans (k1 i hi).2 hB, fun i hi => ⟨Nat.le_trans (g2 i hi).2.1 hB, (g2 i hi).2.2⟩, fun i hi => ⟨Nat.le_trans (g3 i hi).2.1 hB, (g3 i hi).2.2⟩, fun i hi => (k4 i hi).2⟩⟩
theorem open_cells {B : Nat} (hB : B ≤ 1048576) {avs : List AV} (h : pSl pCell B avs) : ∃ (n : Nat) (f : Nat → AV) (lib : Nat → CellV), avs = [.fs n f] ∧ n ≤ 1048576 ∧ ∀ i, i < n → CellA (f i) (lib i) ∧ I64 (lib i).ins ∧ U64 (lib i).table ∧ I64 (lib i).area := by
  obtain ⟨n, f, rfl, hn, hf⟩ := h
  obtain ⟨x, hx⟩ := choose_lt (α := CellV) (q := fun i z => CellA (f i) z ∧ I64 z.ins ∧ U64 z.table ∧ I64 z.area) (n := n) fun i hi => by
    obtain ⟨a, e1, b0, s0, rfl, ⟨s, rfl, hs⟩, b1, s1, rfl, ⟨t, rfl⟩, b2, s2, rfl, ⟨x, rfl, hx⟩, b3, s3, rfl, ⟨y, rfl, hy⟩, b4, s4, rfl, ⟨z, rfl, hz⟩, b5, s5, rfl, h5, b6, s6, rfl, h6, b7, s7, rfl, h7, b8, s8, rfl, ⟨u, rfl, hu⟩, b9, s9, rfl, ⟨v, rfl, hv⟩, b10, s10, rfl, ⟨w, rfl, hw⟩, rfl⟩ := hf i hi
    obtain ⟨n1, f1, rfl, _⟩ := h5
    obtain ⟨n2, f2, rfl, _⟩ := h6
    obtain ⟨n3, f3, rfl, _⟩ := h7
    exact ⟨⟨t, x, y, z⟩, ⟨s, n1, f1, n2, f2, n3, f3, u, v, w, e1⟩, hx, hy, hz⟩
  exact ⟨n, f, x, rfl, Nat.le_trans hn hB, hx⟩
theorem rdWords : ReadsAs Try.prog 23 (pSl (pInt .u64)) := readsAs_slice Try.underlying23 (by decide +kernel) (readsAs_int Try.underlying22)
theorem open_words {B : Nat} {avs : List AV} (h : pSl (pInt .u64) B avs) : ∃ (n : Nat) (f : Nat → AV) (x : Nat → Int), avs = [.fs n f] ∧ n ≤ B ∧ (∀ i, i < n → f i = .int .u64 (x i)) ∧ ∀ k, U64 (x k) := by
  obtain ⟨n, f, x, rfl, hn, hx⟩ := open_ints h
  refine ⟨n, f, fun k => if k < n then x k else 0, rfl, hn, fun i hi => ?_, fun k => ?_⟩
  · simp only [if_pos hi]; exact (hx i hi).1
  · by_cases h : k < n
    · simp only [if_pos h]; exact (hx k h).2
    · simp only [if_neg h]; exact ⟨by decide, by decide⟩
theorem rdBools : ReadsAs Try.prog 27 (pSl pBool) := readsAs_slice Try.underlying27 (by decide +kernel) (readsAs_bool Try.underlying4)
theorem rdRows : ReadsAs Try.prog 81 (pSl (pSl pBool)) := readsAs_slice Try.underlying81 (by decide +kernel) rdBools
theorem open_bools {B : Nat} {avs : List AV} (h : pSl pBool B avs) : ∃ (n : Nat) (f : Nat → AV) (x : Nat → Bool), avs = [.fs n f] ∧ n ≤ B ∧ ∀ i, i < n → f i = .bool (x i) := by
  obtain ⟨n, f, rfl, hn, hf⟩ := h
  obtain ⟨x, hx⟩ := choose_lt (α := Bool) (q := fun i z => f i = .bool z) (n := n) fun i hi => by
    obtain ⟨a, h1, s, rfl⟩ := hf i hi
    exact ⟨s, h1⟩
  exact ⟨n, f, x, rfl, hn, hx⟩
theorem open_rows {B : Nat} (hB : B ≤ 1048576) {avs : List AV} (h : pSl (pSl pBool) B avs) : ∃ (n : Nat) (f : Nat → AV) (L : Nat → Nat) (g : Nat → Nat → AV) (t : Nat → Nat → Bool), avs = [.fs n f] ∧ n ≤ 1048576 ∧ ∀ i, i < n → f i = .fs (L i) (g i) ∧ L i ≤ 1048576 ∧ ∀ j, j < L i → g i j = .bool (t i j) := by
  obtain ⟨n, f, rfl, hn, hf⟩ := h
  obtain ⟨x, hx⟩ := choose_lt (α := Nat × (Nat → AV) × (Nat → Bool)) (q := fun i z => f i = .fs z.1 z.2.1 ∧ z.1 ≤ 1048576 ∧ ∀ j, j < z.1 → z.2.1 j = .bool (z.2.2 j)) (n := n) fun i hi => by
    obtain ⟨a, h1, h2⟩ := hf i hi
    obtain ⟨m, q, y, rfl, hm, hy⟩ := open_bools h2
    exact ⟨(m, q, y), h1, Nat.le_trans hm hB, hy⟩
  exact ⟨n, f, fun i => (x i).1, fun i => (x i).2.1, fun i => (x i).2.2, rfl, Nat.le_trans hn hB, hx⟩
end Go.Proofs.Ytodncnlnadgkhaa
