/- Runs of netlists, plainly. -/
import Derived.Test.YtodncnlnadgkhabLwLevel
import Derived.Test.YtodncnlnadgkhabLwLook
set_option linter.unusedSimpArgs false
set_option linter.unusedVariables false
namespace Go.Ab
open Go
noncomputable def widthF (N : Net) (n1 n2 : Nat) : Int := if formF N ≠ 0 then formF N else if n1 ≠ N.ni ∨ n2 ≠ N.nf then 20 else 0
def ones : Int := 18446744073709551615
def wBase (ni : Nat) (x y : Nat → Int) (k : Nat) : Int := if k = 0 then 0 else if k = 1 then ones else if k < 2 + ni then x (k - 2) else y (k - 2 - ni)
def bBase (ni : Nat) (x y : Nat → Bool) (k : Nat) : Bool := if k = 0 then false else if k = 1 then true else if k < 2 + ni then x (k - 2) else y (k - 2 - ni)
/-- The words of nets behind the first i gates. -/
def wv (N : Net) (x y : Nat → Int) : Nat → Nat → Int
  | 0, k => wBase N.ni x y k
  | i + 1, k => if k = N.first + i then lookF (N.gate i).table (N.gate i).n (fun j => wv N x y i ((N.gate i).ins j).toNat) else wv N x y i k
def rowB (b : Nat → Bool) : Nat → Nat
  | 0 => 0
  | n + 1 => rowB b n + if b n = true then 2 ^ n else 0
def tabB (t : Int) (r : Nat) : Bool := decide (bitop .and .u64 (t.fdiv (2 ^ min r 64)) 1 = 1)
/-- The bits of nets behind the first i gates. -/
def bv (N : Net) (x y : Nat → Bool) : Nat → Nat → Bool
  | 0, k => bBase N.ni x y k
  | i + 1, k => if k = N.first + i then tabB (N.gate i).table (rowB (fun j => bv N x y i ((N.gate i).ins j).toNat) (N.gate i).n) else bv N x y i k
theorem rowB_lt (b : Nat → Bool) : ∀ n, rowB b n < 2 ^ n
  | 0 => by simp [rowB]
  | n + 1 => by
    have := rowB_lt b n
    simp only [rowB, Nat.pow_succ]
    split <;> omega
theorem rowB_rowS {x : Nat → Int} {z : Nat} {b : Nat → Bool} : ∀ n, (∀ j, j < n → b j = bit (x j) z) → rowB b n = rowS x z n
  | 0, _ => rfl
  | n + 1, h => by simp only [rowB, rowS, rowB_rowS n fun j hj => h j (by omega), h n (by omega)]
theorem tabB_bit {t : Int} (ht : U64 t) {r : Nat} (hr : r < 64) : tabB t r = bit t r := by
  unfold tabB
  rw [shift_and_one ht r hr]
  cases bit t r <;> rfl
theorem u64_wv {N : Net} {x y : Nat → Int} (hx : ∀ k, U64 (x k)) (hy : ∀ k, U64 (y k)) : ∀ i k, U64 (wv N x y i k)
  | 0, k => by
    simp only [wv, wBase]
    split
    · exact ⟨by decide, by decide⟩
    · split
      · exact ⟨by decide, by decide⟩
      · split
        · exact hx _
        · exact hy _
  | i + 1, k => by
    simp only [wv]
    split
    · exact u64_lookF _ _ _
    · exact u64_wv hx hy i k
/-- **In each lane, the words are the bits.** -/
theorem lane {N : Net} (g : N.Good) (ok : N.Ok) {x y : Nat → Int} {z : Nat} (hz : z < 64) : ∀ i, i ≤ N.ng → ∀ k, bit (wv N x y i k) z = bv N (fun j => bit (x j) z) (fun j => bit (y j) z) i k
  | 0, _, k => by
    simp only [wv, bv, wBase, bBase]
    split
    · exact bit_zero z
    · split
      · exact bit_ones z hz
      · split <;> rfl
  | i + 1, hi, k => by
    have ih := lane g ok (x := x) (y := y) hz i (by omega)
    simp only [wv, bv]
    split
    · have h6 := (g.ins i (by omega)).1
      have ht := (ok.gate i (by omega)).2.2.1
      rw [bit_lookF ht _ h6 _ z hz]
      have hr : rowB (fun j => bv N (fun j => bit (x j) z) (fun j => bit (y j) z) i ((N.gate i).ins j).toNat) (N.gate i).n = rowS (fun j => wv N x y i ((N.gate i).ins j).toNat) z (N.gate i).n :=
        rowB_rowS _ fun j hj => (ih _).symm
      rw [hr, tabB_bit ht]
      have h1 := rowS_lt (fun j => wv N x y i ((N.gate i).ins j).toNat) z (N.gate i).n
      have h2 : 2 ^ (N.gate i).n ≤ 64 := by
        have := Nat.pow_le_pow_right (show 0 < 2 by decide) h6
        simpa using this
      omega
    · exact ih k
def nextW (N : Net) (v : Nat → Int) (i : Nat) : Int :=
  bitop .or .u64 (bitop .and .u64 (v (N.flop i).en.toNat) (v (N.flop i).d.toNat)) (bitop .and .u64 (bitop .xor .u64 ones (v (N.flop i).en.toNat)) (v (2 + N.ni + i)))
def nextB (N : Net) (v : Nat → Bool) (i : Nat) : Bool := if v (N.flop i).en.toNat = true then v (N.flop i).d.toNat else v (2 + N.ni + i)
theorem bit_not (a : Int) (k : Nat) (hk : k < 64) : bit (bitop .xor .u64 ones a) k = !bit a k := by
  have h1 : bit (bitop .xor .u64 ones a) k = Bool.xor (bit ones k) (bit a k) := by
    simp only [bit, bitop]
    rw [show IntKind.u64.bits = 64 from rfl, ofInt_toNat]
    simp
  rw [h1, show ones = 18446744073709551615 from rfl, bit_ones k hk]
  simp
theorem lane_next {N : Net} {v : Nat → Int} {w : Nat → Bool} {z : Nat} (hz : z < 64) (h : ∀ k, bit (v k) z = w k) (i : Nat) : bit (nextW N v i) z = nextB N w i := by
  simp only [nextW, nextB, bit_or, bit_and, bit_not _ z hz, h]
  cases w (N.flop i).en.toNat <;> simp
theorem u64_nextW (N : Net) (v : Nat → Int) (i : Nat) : U64 (nextW N v i) := u64_or _ _
theorem or_step {q r : Nat} (hq : q < 6) (hr : r < 2 ^ q) : bitop .or .i64 (r : Int) (IntKind.i64.wrap (1 * 2 ^ min q 64)) = ((r + 2 ^ q : Nat) : Int) := by
  have h : ∀ q : Nat, q < 6 → ∀ r : Nat, r < 32 → r < 2 ^ q → bitop .or .i64 (r : Int) (IntKind.i64.wrap (1 * 2 ^ min q 64)) = ((r + 2 ^ q : Nat) : Int) := by decide +kernel
  refine h q hq r ?_ hr
  have := Nat.pow_le_pow_right (show 0 < 2 by decide) (show q ≤ 5 by omega)
  simp at this
  omega
/-- Lists laid end to end. -/
def pre (n : Nat → Nat) : Nat → Nat
  | 0 => 0
  | k + 1 => pre n k + n k
def cat (n : Nat → Nat) (f : Nat → Nat → AV) : Nat → Nat → AV
  | 0, _ => .undef
  | k + 1, j => if j < pre n k then cat n f k j else f k (j - pre n k)
theorem pre_le (n : Nat → Nat) {i : Nat} : ∀ k, i ≤ k → pre n i ≤ pre n k
  | 0, h => by obtain rfl : i = 0 := by omega
               exact Nat.le_refl _
  | k + 1, h => by
    by_cases e : i = k + 1
    · rw [e]; exact Nat.le_refl _
    · have := pre_le n k (show i ≤ k by omega)
      simp only [pre]; omega
end Go.Ab
namespace Go.Ab
open Go
def laneW (b : Bool) : Int := if b = true then 1 else 0
theorem u64_laneW (b : Bool) : U64 (laneW b) := by cases b <;> exact ⟨by decide, by decide⟩
theorem bit_laneW (b : Bool) : bit (laneW b) 0 = b := by cases b <;> decide
theorem and_one_w {a : Int} (ha : U64 a) : decide (bitop .and .u64 a 1 = 1) = bit a 0 := by
  have h := shift_and_one ha 0 (by decide)
  have e : a.fdiv (2 ^ min 0 64) = a := by simp
  rw [e] at h
  rw [h]
  cases bit a 0 <;> rfl
def traceAt (L : Nat → Nat) (ni : Nat) (i : Nat) : Int := if L i ≠ ni then 20 else 0
def traceF (T : Nat) (L : Nat → Nat) (ni : Nat) : Int := if 64 < T then 3 else scan (traceAt L ni) T
theorem traceF_zero {T : Nat} {L : Nat → Nat} {ni : Nat} (h : traceF T L ni = 0) : T ≤ 64 ∧ ∀ i, i < T → L i = ni := by
  unfold traceF at h
  split at h
  · cases h
  · refine ⟨by omega, fun i hi => ?_⟩
    have := scan_zero h i hi
    unfold traceAt at this
    split at this
    · cases this
    · rename_i h2; exact Classical.not_not.1 h2
noncomputable def runF (N : Net) (T : Nat) (L : Nat → Nat) : Int := if formF N ≠ 0 then formF N else traceF T L N.ni
/-- The state before cycle i. -/
def st (N : Net) (t : Nat → Nat → Bool) : Nat → Nat → Bool
  | 0, j => (N.flop j).init
  | i + 1, j => nextB N (bv N (t i) (st N t i) N.ng) j
/-- What is shown in cycle i. -/
def shown (N : Net) (t : Nat → Nat → Bool) (i k : Nat) : Bool := bv N (t i) (st N t i) N.ng (N.outs k).toNat
end Go.Ab
