/- Names set before names, plainly. -/
import Derived.Test.YtodncnlnadgkhabLwGraph
set_option linter.unusedSimpArgs false
set_option linter.unusedVariables false
namespace Go.Ab
open Go
def prefG (G : Gra) (s : ByteArray) : Gra := { G with out := fun i => s ++ G.out i, reg := fun i => ⟨s ++ (G.reg i).name, (G.reg i).next, (G.reg i).init⟩ }
noncomputable def prefF (G : Gra) (s : ByteArray) : Int := if graphF G ≠ 0 then graphF G else if 128 < s.size then 9 else graphF (prefG G s)
theorem name_size {f : Nat → ByteArray} {n : Nat} (h : namesF f n = 0) : ∀ i, i < n → (f i).size ≤ 128 := fun i hi => by
  have := scan_zero h i hi
  unfold nameAt at this
  split at this
  · rename_i h1; exact h1.2.1
  · cases this
theorem names_of {G : Gra} (h : graphF G = 0) : namesF G.names (G.ni + G.nr) = 0 ∧ namesF G.out G.no = 0 := by
  unfold graphF at h
  split at h
  · cases h
  · split at h
    · cases h
    · split at h
      · rename_i h3; exact absurd h h3
      · rename_i h3
        split at h
        · rename_i h4; exact absurd h h4
        · rename_i h4; exact ⟨Classical.not_not.1 h3, Classical.not_not.1 h4⟩
theorem reg_size {G : Gra} (h : graphF G = 0) (i : Nat) (hi : i < G.nr) : (G.reg i).name.size ≤ 128 := by
  have := name_size (names_of h).1 (G.ni + i) (by omega)
  unfold Gra.names at this
  rw [if_neg (by omega), show G.ni + i - G.ni = i by omega] at this
  exact this
theorem out_size {G : Gra} (h : graphF G = 0) (i : Nat) (hi : i < G.no) : (G.out i).size ≤ 128 := name_size (names_of h).2 i hi
theorem prefG_ok {G : Gra} (ok : G.Ok) (h : graphF G = 0) {s : ByteArray} (hs : s.size ≤ 128) : (prefG G s).Ok := by
  refine ⟨ok.ni, ok.no, ok.nr, ok.na, ok.nk, ok.inn, fun i hi => ?_, fun i hi => ⟨?_, (ok.reg i hi).2⟩, ok.A, ok.B, ok.outs⟩
  · show (s ++ G.out i).size ≤ 1048576
    rw [ByteArray.size_append]
    have := out_size h i hi
    omega
  · show (s ++ (G.reg i).name).size ≤ 1048576
    rw [ByteArray.size_append]
    have := reg_size h i hi
    omega
end Go.Ab
