/- Plain laws: the first fault of a row. -/
import Derived.Test.YtodncnlnadgkhaaLwBit
set_option linter.unusedSimpArgs false
set_option linter.unusedVariables false
namespace Go.Ab
open Go

/-- The first fault among f 0 .. f (k-1), or 0. -/
def scan (f : Nat → Int) : Nat → Int
  | 0 => 0
  | k + 1 => if scan f k = 0 then f k else scan f k
theorem scan_step {f : Nat → Int} {i : Nat} (h : scan f i = 0) (hf : f i = 0) : scan f (i + 1) = 0 := by simp [scan, h, hf]
theorem scan_stop {f : Nat → Int} {i : Nat} {c : Int} (h : scan f i = 0) (hf : f i = c) (hc : c ≠ 0) : ∀ n, i < n → scan f n = c
  | n + 1, hn => by
    simp only [scan]
    by_cases e : i = n
    · subst e; rw [if_pos h]; exact hf
    · rw [scan_stop h hf hc n (by omega), if_neg hc]
theorem scan_congr {f g : Nat → Int} : ∀ n, (∀ i, i < n → f i = g i) → scan f n = scan g n
  | 0, _ => rfl
  | n + 1, h => by simp only [scan]; rw [scan_congr n fun i hi => h i (by omega), h n (by omega)]
theorem scan_zero {f : Nat → Int} : ∀ {n : Nat}, scan f n = 0 → ∀ i, i < n → f i = 0
  | n + 1, h, i, hi => by
    simp only [scan] at h
    by_cases e : scan f n = 0
    · rw [if_pos e] at h
      by_cases e2 : i = n
      · subst e2; exact h
      · exact scan_zero e i (by omega)
    · rw [if_neg e] at h; exact absurd h e

/-! ### names -/
def byteAt (s : ByteArray) (i : Nat) : Int := ((s.data.toList.getD i 0).toNat : Int)
def byteOk (b : Int) : Prop := 33 ≤ b ∧ b ≤ 126
instance (b : Int) : Decidable (byteOk b) := by unfold byteOk; infer_instance
def nameOk (s : ByteArray) : Prop := 1 ≤ s.size ∧ s.size ≤ 128 ∧ ∀ i, i < s.size → byteOk (byteAt s i)
instance (s : ByteArray) : Decidable (nameOk s) := by unfold nameOk; infer_instance
def seenB (s : Nat → ByteArray) (i : Nat) (q : ByteArray) : Prop := ∃ j, j < i ∧ s j = q
open Classical in
noncomputable def nameAt (s : Nat → ByteArray) (i : Nat) : Int := if nameOk (s i) then (if seenB s i (s i) then 6 else 0) else 9
noncomputable def namesF (s : Nat → ByteArray) (n : Nat) : Int := scan (nameAt s) n
theorem nameAt_bad {s : Nat → ByteArray} {i : Nat} (h : ¬ nameOk (s i)) : nameAt s i = 9 := by unfold nameAt; rw [if_neg h]
theorem nameAt_twice {s : Nat → ByteArray} {i : Nat} (h : nameOk (s i)) (h2 : seenB s i (s i)) : nameAt s i = 6 := by unfold nameAt; rw [if_pos h, if_pos h2]
theorem nameAt_ok {s : Nat → ByteArray} {i : Nat} (h : nameOk (s i)) (h2 : ¬ seenB s i (s i)) : nameAt s i = 0 := by unfold nameAt; rw [if_pos h, if_neg h2]
theorem seen_succ {s : Nat → ByteArray} {i : Nat} {q : ByteArray} : seenB s (i + 1) q ↔ seenB s i q ∨ s i = q := by
  constructor
  · rintro ⟨j, hj, h⟩
    rcases Nat.lt_or_ge j i with h1 | h1
    · exact .inl ⟨j, h1, h⟩
    · obtain rfl : j = i := by omega
      exact .inr h
  · rintro (⟨j, hj, h⟩ | h)
    · exact ⟨j, by omega, h⟩
    · exact ⟨i, by omega, h⟩
end Go.Ab
