/- Values of nodes of graphs, in words and in bits, plainly. -/
import Derived.Test.YtodncnlnadgkhabLwValues
import Derived.Test.YtodncnlnadgkhabLwGLevel
set_option linter.unusedSimpArgs false
set_option linter.unusedVariables false
namespace Go.Ab
open Go
noncomputable def widthG (G : Gra) (n1 n2 : Nat) : Int := if graphF G ≠ 0 then graphF G else if n1 ≠ G.ni ∨ n2 ≠ G.nr then 20 else 0
theorem widthG_zero {G : Gra} {n1 n2 : Nat} (h : widthG G n1 n2 = 0) : G.Good ∧ n1 = G.ni ∧ n2 = G.nr := by
  unfold widthG at h
  split at h
  · rename_i h1; exact absurd h h1
  · rename_i h1
    split at h
    · cases h
    · exact ⟨good_of (Classical.not_not.1 h1), by omega, by omega⟩
def wBaseG (ni : Nat) (x y : Nat → Int) (k : Nat) : Int := if k = 0 then 0 else if k < 1 + ni then x (k - 1) else y (k - 1 - ni)
def bBaseG (ni : Nat) (x y : Nat → Bool) (k : Nat) : Bool := if k = 0 then false else if k < 1 + ni then x (k - 1) else y (k - 1 - ni)
/-- The word, the bit of a literal. -/
def ofW (v : Nat → Int) (l : Int) : Int := if l % 2 = 1 then bitop .xor .u64 ones (v (ndx l)) else v (ndx l)
def ofB (v : Nat → Bool) (l : Int) : Bool := Bool.xor (v (ndx l)) (decide (l % 2 = 1))
/-- The words of nodes behind the first i ands. -/
def gw (G : Gra) (x y : Nat → Int) : Nat → Nat → Int
  | 0, k => wBaseG G.ni x y k
  | i + 1, k => if k = G.base + i then bitop .and .u64 (ofW (gw G x y i) (G.A i)) (ofW (gw G x y i) (G.B i)) else gw G x y i k
def gb (G : Gra) (x y : Nat → Bool) : Nat → Nat → Bool
  | 0, k => bBaseG G.ni x y k
  | i + 1, k => if k = G.base + i then ofB (gb G x y i) (G.A i) && ofB (gb G x y i) (G.B i) else gb G x y i k
theorem u64_xor (a b : Int) : U64 (bitop .xor .u64 a b) := by
  show U64 (IntKind.u64.wrap ((BitVec.ofInt 64 a ^^^ BitVec.ofInt 64 b).toNat : Int)); rw [wrap_bv]; exact ⟨by omega, by have := (BitVec.ofInt 64 a ^^^ BitVec.ofInt 64 b).isLt; omega⟩
theorem u64_ofW {v : Nat → Int} (h : ∀ k, U64 (v k)) (l : Int) : U64 (ofW v l) := by
  unfold ofW
  split
  · exact u64_xor _ _
  · exact h _
theorem u64_gw {G : Gra} {x y : Nat → Int} (hx : ∀ k, U64 (x k)) (hy : ∀ k, U64 (y k)) : ∀ i k, U64 (gw G x y i k)
  | 0, k => by
    simp only [gw, wBaseG]
    split
    · exact ⟨by decide, by decide⟩
    · split
      · exact hx _
      · exact hy _
  | i + 1, k => by
    simp only [gw]
    split
    · exact u64_and _ _
    · exact u64_gw hx hy i k
theorem bit_ofW {v : Nat → Int} {w : Nat → Bool} {z : Nat} (hz : z < 64) (h : ∀ k, bit (v k) z = w k) (l : Int) : bit (ofW v l) z = ofB w l := by
  unfold ofW ofB
  by_cases e : l % 2 = 1
  · rw [if_pos e, bit_not _ z hz, h]; simp [e]
  · rw [if_neg e, h]; simp [e]
/-- **In each lane, the words are the bits.** -/
theorem laneG {G : Gra} {x y : Nat → Int} {z : Nat} (hz : z < 64) : ∀ i k, bit (gw G x y i k) z = gb G (fun j => bit (x j) z) (fun j => bit (y j) z) i k
  | 0, k => by
    simp only [gw, gb, wBaseG, bBaseG]
    split
    · exact bit_zero z
    · split <;> rfl
  | i + 1, k => by
    have ih := laneG (G := G) (x := x) (y := y) hz i
    simp only [gw, gb]
    split
    · rw [bit_and, bit_ofW hz ih, bit_ofW hz ih]
    · exact ih k
/-- A node keeps its value once it has it. -/
theorem gb_far (G : Gra) (x y : Nat → Bool) : ∀ (n i k : Nat), i ≤ n → k < G.base + i → gb G x y n k = gb G x y i k
  | 0, i, k, h, hk => by obtain rfl : i = 0 := by omega
                         rfl
  | n + 1, i, k, h, hk => by
    by_cases e : i = n + 1
    · rw [e]
    · simp only [gb]
      rw [if_neg (by omega)]
      exact gb_far G x y n i k (by omega) hk
/-- The value of a node of a graph. -/
def nodeB (G : Gra) (x y : Nat → Bool) (k : Nat) : Bool := gb G x y G.na k
def litB (G : Gra) (x y : Nat → Bool) (l : Int) : Bool := ofB (nodeB G x y) l
theorem nodeB_and {G : Gra} (gd : G.Good) {x y : Nat → Bool} {i : Nat} (hi : i < G.na) : nodeB G x y (G.base + i) = (litB G x y (G.A i) && litB G x y (G.B i)) := by
  unfold nodeB litB
  rw [gb_far G x y G.na (i + 1) _ (by omega) (by omega)]
  simp only [gb, if_true, ofB, nodeB]
  rw [gb_far G x y G.na i _ (by omega) (ndx_lt (gd.A i hi)), gb_far G x y G.na i _ (by omega) (ndx_lt (gd.B i hi))]
theorem litB_even {G : Gra} {x y : Nat → Bool} {k : Nat} : litB G x y (2 * (k : Int)) = nodeB G x y k := by
  have e : ndx (2 * (k : Int)) = k := by unfold ndx; omega
  unfold litB ofB
  rw [e, show (2 * (k : Int)) % 2 = 0 by omega]
  simp
theorem nodeB_base {G : Gra} {x y : Nat → Bool} {k : Nat} (hk : k < G.base) : nodeB G x y k = bBaseG G.ni x y k := gb_far G x y G.na 0 k (Nat.zero_le _) hk
end Go.Ab
