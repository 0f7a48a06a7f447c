/- Appends that gather a list, in whichever of some sites came first. -/
import Derived.Test.YtodncnlnadgkhabFwS
set_option linter.unusedSimpArgs false
set_option linter.unusedVariables false
namespace Go.Ab
open Go

def AccL (S : List Nat) (e sz : Nat) (L : List AV) (v : AV) (m : Mem) : Prop := (L = [] ∧ v = .cap0) ∨ ∃ s ver g, s ∈ S ∧ v = .sl s ver L.length ∧ m s = .row ver e sz L.length g ∧ ∀ j, j < L.length → g j = L.getD j .undef
theorem AccL.keep {S : List Nat} {e sz : Nat} {L : List AV} {v : AV} {m m' : Mem} (h : AccL S e sz L v m) (hm : ∀ s, s ∈ S → m' s = m s) : AccL S e sz L v m' := by
  obtain h | ⟨s, ver, g, h1, h2, h3, h4⟩ := h
  · exact .inl h
  · exact .inr ⟨s, ver, g, h1, h2, (hm s h1).trans h3, h4⟩
theorem AccL.sub {S S' : List Nat} {e sz : Nat} {L : List AV} {v : AV} {m : Mem} (h : AccL S e sz L v m) (hs : ∀ s, s ∈ S → s ∈ S') : AccL S' e sz L v m := by
  obtain h | ⟨s, ver, g, h1, h2, h3, h4⟩ := h
  · exact .inl h
  · exact .inr ⟨s, ver, g, hs s h1, h2, h3, h4⟩
theorem AccL.first {S : List Nat} {e sz s V : Nat} {a : AV} {m : Mem} (hs : s ∈ S) : AccL S e sz [a] (.sl s V 1) (Mem.set s (.row V e sz 1 fun k => [a].getD k .undef) m) := by
  refine .inr ⟨s, V, _, hs, rfl, set_same _ _ _, fun j hj => ?_⟩
  obtain rfl : j = 0 := by simpa using hj
  rfl
theorem AccL.push {S : List Nat} {e sz s V : Nat} {L : List AV} {a : AV} {m : Mem} {g : Nat → AV} (hs : s ∈ S) (hg : ∀ j, j < L.length → g j = L.getD j .undef) : AccL S e sz (L ++ [a]) (.sl s V (L.length + 1)) (Mem.set s (.row V e sz (L.length + 1) fun k => bif decide (k < L.length) then g k else [a].getD (k - L.length) .undef) m) := by
  have hll : (L ++ [a]).length = L.length + 1 := by simp
  refine .inr ⟨s, V, _, hs, by rw [hll], by rw [hll]; exact set_same _ _ _, fun j hj => ?_⟩
  rw [hll] at hj
  by_cases ej : j < L.length
  · simp only [ej, decide_true, cond_true]
    rw [hg j ej, List.getD_eq_getElem?_getD, List.getD_eq_getElem?_getD, List.getElem?_append_left ej]
  · obtain rfl : j = L.length := by omega
    simp only [Nat.lt_irrefl, decide_false, cond_false, Nat.sub_self, List.getD_cons_zero]
    rw [List.getD_eq_getElem?_getD, List.getElem?_append_right (Nat.le_refl _)]
    simp
theorem AccL.put {S : List Nat} {e sz t : Nat} {L : List AV} {v : AV} {m : Mem} {o : AO} (h : AccL S e sz L v m) (hn : t ∉ S) : AccL S e sz L v (Mem.set t o m) := h.keep fun s hs => set_ne (fun e => by subst e; exact hn hs) _ _
/-- What it is behind a return, or lent. -/
theorem AccL.rs0 {S : List Nat} {e sz : Nat} {L : List AV} {v : AV} {m : Mem} (h : AccL S e sz L v m) : ∃ f, Go.Ab.rs0 m v = (True, .fs L.length f) ∧ ∀ j, j < L.length → f j = L.getD j .undef := by
  obtain ⟨rfl, rfl⟩ | ⟨s, ver, g, h1, rfl, h3, h4⟩ := h
  · exact ⟨_, rfl, fun j hj => absurd hj (Nat.not_lt_zero _)⟩
  · refine ⟨g, ?_, h4⟩
    simp only [Go.Ab.rs0, h3]
theorem AccL.rs2 {S : List Nat} {e sz : Nat} {L : List AV} {v : AV} {m : Mem} (h : AccL S e sz L v m) : ∃ f, Go.Ab.rs2 m v = (True, .fs L.length f) ∧ ∀ j, j < L.length → f j = L.getD j .undef := by
  obtain ⟨f, h1, h2⟩ := h.rs0
  obtain ⟨rfl, rfl⟩ | ⟨s, ver, g, _, rfl, h3, h4⟩ := h
  · exact ⟨f, h1, h2⟩
  · exact ⟨f, h1, h2⟩
end Go.Ab
