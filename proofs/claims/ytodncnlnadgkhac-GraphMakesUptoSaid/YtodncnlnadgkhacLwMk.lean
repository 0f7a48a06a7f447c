/- Strash of a graph that has no trivial and no double ands keeps all of them. -/
import Derived.Test.YtodncnlnadgkhacSaGHashed
import Derived.Test.YtodncnlnadgkhacSaMakV
set_option linter.unusedSimpArgs false
set_option linter.unusedVariables false
namespace Go.Ab
open Go
def NdG (G : Gra) : Prop := ∀ k, k < G.na → 2 ≤ G.A k ∧ G.A k < G.B k ∧ G.A k ≠ x1 (G.B k) ∧ ∀ j, j < k → ¬ (G.A j = G.A k ∧ G.B j = G.B k)
theorem mvL_id {to : Nat → Int} {n : Nat} (hn : n ≤ 1048576) (h : ∀ k, k < n → to k = 2 * (k : Int)) {l : Int} (hl : litOk n l) : mvL to l = l := by
  unfold mvL
  rw [h _ (ndx_lt hl)]
  obtain ⟨h0, h1⟩ := hl
  have e : (ndx l : Int) = l / 2 := by unfold ndx; omega
  rw [e]
  rcases (show l % 2 = 0 ∨ l % 2 = 1 by omega) with q | q
  · rw [q, xor_zero (by omega) (by omega)]; omega
  · rw [q]
    have := x1_val (l := 2 * (l / 2)) (by omega) (by omega)
    unfold x1 at this
    rw [this]
    split <;> omega
theorem hs_id {G : Gra} (gd : G.Good) (nd : NdG G) : ∀ i, i ≤ G.na → (hs G i).1.n = i ∧ (∀ k, k < i → (hs G i).1.A k = G.A k ∧ (hs G i).1.B k = G.B k) ∧ ∀ k, k < G.base + i → (hs G i).2 k = 2 * (k : Int)
  | 0, _ => ⟨rfl, fun k hk => absurd hk (Nat.not_lt_zero _), fun k hk => rfl⟩
  | i + 1, hi => by
    obtain ⟨h1, h2, h3⟩ := hs_id gd nd i (by omega)
    have b1 := gd.ni; have b2 := gd.nr; have b3 := gd.na
    have hI := hs_inv gd i (by omega)
    have hB := nodes_eq hI.ni hI.nr
    have hb : G.base = 1 + G.ni + G.nr := rfl
    obtain ⟨d1, d2, d3, d4⟩ := nd i (by omega)
    obtain ⟨-, -, s1, s2⟩ := hs_step gd (show i < G.na by omega) (G.A i) (G.B i) (mvL_id (by omega) h3 (gd.A i (by omega))).symm (mvL_id (by omega) h3 (gd.B i (by omega))).symm
    have m1 : mnL (G.A i) (G.B i) = G.A i := by unfold mnL; rw [if_neg (by omega)]
    have m2 : mxL2 (G.A i) (G.B i) = G.B i := by unfold mxL2; rw [if_pos (by omega)]
    have hidx : ¬ (hs G i).1.idx (G.A i) (G.B i) < (hs G i).1.n := fun h => by
      obtain ⟨q1, q2⟩ := find2_lt (A := (hs G i).1.A) (B := (hs G i).1.B) (x := G.A i) (y := G.B i) h
      have h' : find2 (hs G i).1.A (hs G i).1.B (G.A i) (G.B i) (hs G i).1.n < i := by rw [h1] at h; exact h1 ▸ h
      exact d4 _ h' ⟨(h2 _ h').1.symm.trans q1, (h2 _ h').2.symm.trans q2⟩
    have key : (hs G i).1.andS (G.A i) (G.B i) = ((2 * ((hs G i).1.nodes : Nat) : Int), true, (hs G i).1.push (G.A i) (G.B i)) := by
      unfold Mak.andS
      rw [if_neg (by rintro (q | q); · omega
                     · exact d3 q), if_neg (by omega), if_neg hidx, if_neg (by omega)]
    rw [m1, m2, key] at s1 s2
    refine ⟨by rw [s1]; show (hs G i).1.n + 1 = i + 1; omega, fun k hk => ?_, fun k hk => ?_⟩
    · rw [s1]
      show (if k = (hs G i).1.n then G.A i else (hs G i).1.A k) = _ ∧ (if k = (hs G i).1.n then G.B i else (hs G i).1.B k) = _
      rw [h1]
      by_cases e : k = i
      · subst e; rw [if_pos rfl, if_pos rfl]; exact ⟨rfl, rfl⟩
      · rw [if_neg e, if_neg e]; exact h2 k (by omega)
    · rw [s2]
      show (if k = G.base + i then (2 * ((hs G i).1.nodes : Nat) : Int) else (hs G i).2 k) = _
      by_cases e : k = G.base + i
      · rw [if_pos e, e]
        show (2 * (((hs G i).1.base + (hs G i).1.n : Nat) : Int)) = _
        rw [hB, h1]
      · rw [if_neg e]; exact h3 k (by omega)
end Go.Ab
