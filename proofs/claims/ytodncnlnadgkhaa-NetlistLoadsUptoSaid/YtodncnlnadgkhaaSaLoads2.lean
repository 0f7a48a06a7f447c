/- The rows of loads: what they hold after some uses. -/
import Derived.Test.YtodncnlnadgkhaaSaLoads
set_option linter.unusedSimpArgs false
set_option linter.unusedVariables false
namespace Go.Ab
open Go

abbrev LdV := Int × Int × Int
def LdV.av (u : LdV) : AV := .agg [.int .i64 u.1, .int .i64 u.2.1, .int .i64 u.2.2]
/-- The loads of a net, in order. -/
def selU (U : List (Nat × LdV)) (k : Nat) : List LdV := (U.filter (fun u => Nat.beq u.1 k)).map (·.2)
theorem selU_same (U : List (Nat × LdV)) (k : Nat) (x : LdV) : selU (U ++ [(k, x)]) k = selU U k ++ [x] := by simp [selU]
theorem selU_other (U : List (Nat × LdV)) {k q : Nat} (h : q ≠ k) (x : LdV) : selU (U ++ [(q, x)]) k = selU U k := by simp [selU, beq_false_of_ne h]

/-- Net k's element: nil, or a row of the name t. -/
def ElS (m : Mem) (a : AV) (t : Nat) : List LdV → Prop
  | [] => a = .cap0 ∧ ∃ wv, m t = .dead wv
  | u :: L => ∃ v h, a = .sl t v (L.length + 1) ∧ m t = .row v 43 3 (L.length + 1) h ∧ ∀ j, j < L.length + 1 → h j = ((u :: L).getD j (0, 0, 0)).av

/-- What the rows hold after the uses U. -/
def LdS (m : Mem) (r vr nn : Nat) (U : List (Nat × LdV)) : Prop := ∃ g, m r = .vrow vr 40 1 nn g ∧ ∀ k, k < nn → ElS m (g k) (10000000 + k) (selU U k)

theorem ElS.keep {m m' : Mem} {a : AV} {t : Nat} {L : List LdV} (h : ElS m a t L) (hm : m' t = m t) : ElS m' a t L := by
  cases L with
  | nil => exact ⟨h.1, by rw [hm]; exact h.2⟩
  | cons u L => obtain ⟨v, f, h1, h2, h3⟩ := h; exact ⟨v, f, h1, by rw [hm]; exact h2, h3⟩

theorem LdS.keep {m m' : Mem} {r vr nn : Nat} {U : List (Nat × LdV)} (h : LdS m r vr nn U) (hr : m' r = m r) (hk : ∀ k, m' (10000000 + k) = m (10000000 + k)) : LdS m' r vr nn U := by
  obtain ⟨g, h1, h2⟩ := h
  exact ⟨g, by rw [hr]; exact h1, fun k hk' => (h2 k hk').keep (hk k)⟩

/-- One use more: the call's result, seen with the new row under its own name. -/
theorem LdS.use {b : Nat} {mem : Mem} {o vo r vr nn : Nat} {U : List (Nat × LdV)} (hb : b + 100 ≤ 10000000) (ho : o < b) (hr : r < b) (hne : o ≠ r) (mo : mem o = .var vo [.vs r vr nn]) (h : LdS mem r vr nn U) (hU : U.length ≤ 16777215) (q : Nat) (hq : q < nn) (x : LdV) :
    CallW PP 69 [.int .i64 (q : Nat), .agg [.int .i64 x.1, .int .i64 x.2.1, .int .i64 x.2.2], .ptr o vo 0] mem fun u m => ∃ m', (∀ e, Shift e m e m') ∧ LdS m' r vr nn (U ++ [(q, x)]) ∧ (∀ i, i < b → i ≠ r → m' i = mem i) ∧ ∀ i, i < b → i ≠ r → m i = mem i := by
  obtain ⟨g, mr, hg⟩ := h
  have hgq := hg q hq
  cases hL : selU U q with
  | nil =>
    rw [hL] at hgq
    obtain ⟨hgq, wv, hd⟩ := hgq
    refine (p69a b ho hr hne mo mr q hq x.1 x.2.1 x.2.2 hgq).mono fun u m ⟨⟨V, f, n1, n2, n3⟩, hF⟩ => ?_
    refine ⟨_, fun e => Shift.name (t := 10000000 + q) (wv := wv) (i := q) (k := 1) n2 (by rw [hF _ (.inr (by omega)) (by omega)]; exact hd) n1 hq (by simp), ⟨_, set_same _ _ _, fun k hk' => ?_⟩, fun i hi hn => ?_, fun i hi hn => hF i (.inl hi) hn⟩
    · by_cases e : k = q
      · subst e
        rw [selU_same, hL]
        simp only [Nat.beq_refl, cond_true, List.nil_append]
        refine ⟨_, _, rfl, by rw [set_ne (by omega), set_same]; rfl, fun j hj => ?_⟩
        obtain rfl : j = 0 := by simpa using hj
        exact n3
      · rw [selU_other U (Ne.symm e)]
        simp only [beq_false_of_ne e, cond_false]
        exact (hg k hk').keep (by rw [set_ne (by omega), set_ne (by omega), set_ne (by omega), hF _ (.inr (by omega)) (by omega)])
    · rw [set_ne hn, set_ne (by omega), set_ne (by omega), hF i (.inl hi) hn]
  | cons u L =>
    rw [hL] at hgq
    obtain ⟨v, f, h1, h2, h3⟩ := hgq
    have hlen : L.length + 1 ≤ 16777216 := by
      have : (selU U q).length ≤ U.length := by unfold selU; rw [List.length_map]; exact List.length_filter_le _ _
      rw [hL] at this; simp at this; omega
    refine (p69b b ho hr hne mo mr q hq x.1 x.2.1 x.2.2 h1 h2 (.inr (by omega)) (by omega) (by omega) hlen).mono fun u' m ⟨⟨n1, n2⟩, hF⟩ => ?_
    refine ⟨m, fun e => Shift.refl _ _, ⟨_, n1, fun k hk' => ?_⟩, fun i hi hn => hF i (.inl hi) hn (by omega), fun i hi hn => hF i (.inl hi) hn (by omega)⟩
    by_cases e : k = q
    · subst e
      rw [selU_same, hL]
      simp only [Nat.beq_refl, cond_true, List.cons_append]
      have hll : (L ++ [x]).length + 1 = L.length + 1 + 1 := by simp
      refine ⟨v + 1, _, by rw [hll], by rw [hll]; exact n2, fun j hj => ?_⟩
      rw [hll] at hj
      by_cases ej : j < L.length + 1
      · simp only [ej, decide_true, cond_true]
        rw [h3 j ej]
        have e5 : (u :: (L ++ [x])).getD j (0, 0, 0) = (u :: L).getD j (0, 0, 0) := by
          have := List.getElem?_append_left (l₁ := u :: L) (l₂ := [x]) (show j < (u :: L).length by simpa using ej)
          simp only [List.getD_eq_getElem?_getD]
          rw [← List.cons_append, this]
        rw [e5]
      · obtain rfl : j = L.length + 1 := by omega
        simp only [Nat.lt_irrefl, decide_false, cond_false, Nat.sub_self, List.getD_cons_zero]
        have e5 : (u :: (L ++ [x])).getD (L.length + 1) (0, 0, 0) = x := by
          simp [List.getD_eq_getElem?_getD]
        rw [e5]; rfl
    · rw [selU_other U (Ne.symm e)]
      simp only [beq_false_of_ne e, cond_false]
      exact (hg k hk').keep (hF _ (.inr (by omega)) (by omega) (by omega))

/-- What a net's loads are, let go. -/
def FrL (a : AV) (L : List LdV) : Prop := (L = [] ∧ a = .cap0) ∨ ∃ h, a = .fs L.length h ∧ ∀ j, j < L.length → h j = (L.getD j (0, 0, 0)).av
theorem LdS.freeze {m : Mem} {r vr nn : Nat} {U : List (Nat × LdV)} (hr : r < 10000000) (h : LdS m r vr nn U) : ∀ p, p ≤ nn → ∃ m', (∀ e, Shift e m e m') ∧ (∃ g, m' r = .vrow vr 40 1 nn g ∧ (∀ k, k < p → FrL (g k) (selU U k)) ∧ ∀ k, p ≤ k → k < nn → ElS m' (g k) (10000000 + k) (selU U k)) ∧ ∀ i, i < 10000000 → i ≠ r → m' i = m i
  | 0, _ => by
    obtain ⟨g, h1, h2⟩ := h
    exact ⟨m, fun e => Shift.refl _ _, ⟨g, h1, fun k hk => absurd hk (Nat.not_lt_zero _), fun k _ hk => h2 k hk⟩, fun _ _ _ => rfl⟩
  | p + 1, hp => by
    obtain ⟨m', hS, ⟨g, g1, g2, g3⟩, hF⟩ := h.freeze hr p (by omega)
    have hx := g3 p (Nat.le_refl _) (by omega)
    cases hL : selU U p with
    | nil =>
      rw [hL] at hx
      refine ⟨m', hS, ⟨g, g1, fun k hk => ?_, fun k h1 h2 => g3 k (by omega) h2⟩, hF⟩
      by_cases e : k = p
      · subst e; exact .inl ⟨hL, hx.1⟩
      · exact g2 k (by omega)
    | cons u L =>
      rw [hL] at hx
      obtain ⟨v, f, h1, h2, h3⟩ := hx
      refine ⟨_, fun e => (hS e).trans (Shift.frz h2 g1 (by omega) h1), ⟨_, set_same _ _ _, fun k hk => ?_, fun k h4 h5 => ?_⟩, fun i hi hn => ?_⟩
      · by_cases e : k = p
        · subst e
          simp only [Nat.beq_refl, cond_true]
          rw [hL]
          exact .inr ⟨f, rfl, h3⟩
        · simp only [beq_false_of_ne e, cond_false]
          exact g2 k (by omega)
      · simp only [beq_false_of_ne (show k ≠ p by omega), cond_false]
        exact (g3 k (by omega) h5).keep (by rw [set_ne (by omega), set_ne (by omega)])
      · rw [set_ne hn, set_ne (by omega)]
        exact hF i hi hn
end Go.Ab
