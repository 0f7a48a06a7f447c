/- Rows of one's own, let go and lent. -/
import Derived.Test.YtodncnlnadgkhacFwZ
set_option linter.unusedSimpArgs false
set_option linter.unusedVariables false
namespace Go.Ab
open Go
section
variable {S : List Nat} {e sz n : Nat} {p : Nat → AV → Prop} {v : AV} {m : Mem}
theorem AccP.cell (h : AccP S e sz n p v m) : v.okv = true ∧ v.cells = [v] ∧ v.isCell = true := by
  rcases h with ⟨_, rfl⟩ | ⟨_, _, _, _, rfl, _, _⟩ <;> exact ⟨rfl, rfl, rfl⟩
theorem AccP.frz0 (h : AccP S e sz n p v m) : ∃ c v' m', Go.Ab.frz0 m v = some (c, v', m') ∧ c ∧ (∃ f, Go.Ab.wk0 v' = .fs n f ∧ ∀ j, j < n → p j (f j)) ∧ ∀ o, o ∉ S → m' o = m o := by
  obtain ⟨rfl, rfl⟩ | ⟨s, ver, g, h1, rfl, h3, h4⟩ := h
  · exact ⟨_, _, _, rfl, trivial, ⟨_, rfl, fun j hj => absurd hj (Nat.not_lt_zero _)⟩, fun _ _ => rfl⟩
  · refine ⟨True, .fs n g, Mem.set s (.dead (ver + 1)) m, by simp only [Go.Ab.frz0, h3], trivial, ⟨g, rfl, h4.1⟩, fun o ho => set_ne (fun e => by subst e; exact ho h1) _ _⟩
end
/-- Five rows of one's own let go. -/
theorem frz5 {S0 S1 S2 S3 S4 : List Nat} {e1 e2 e3 e4 z1 z2 z3 z4 n0 n1 n2 n3 n4 : Nat} {p0 p1 p2 p3 p4 : Nat → AV → Prop} {x0 x1 x2 x3 x4 : AV} {m : Mem} (h0 : ∃ c v' m', Go.Ab.frz0 m x0 = some (c, v', m') ∧ c ∧ (∃ f, Go.Ab.wk0 v' = .fs n0 f ∧ ∀ j, j < n0 → p0 j (f j)) ∧ ∀ o, o ∉ S0 → m' o = m o) (h1 : AccP S1 e1 z1 n1 p1 x1 m) (h2 : AccP S2 e2 z2 n2 p2 x2 m) (h3 : AccP S3 e3 z3 n3 p3 x3 m) (h4 : AccP S4 e4 z4 n4 p4 x4 m)
    (d : ∀ s, (s ∈ S0 → s ∉ S1 ∧ s ∉ S2 ∧ s ∉ S3 ∧ s ∉ S4) ∧ (s ∈ S1 → s ∉ S2 ∧ s ∉ S3 ∧ s ∉ S4) ∧ (s ∈ S2 → s ∉ S3 ∧ s ∉ S4) ∧ (s ∈ S3 → s ∉ S4)) :
    ∃ c r m', frzL [x0, x1, x2, x3, x4] m = some (c, r, m') ∧ c ∧ ∃ f0 f1 f2 f3 f4, r.map wk0 = [.fs n0 f0, .fs n1 f1, .fs n2 f2, .fs n3 f3, .fs n4 f4] ∧ (∀ j, j < n0 → p0 j (f0 j)) ∧ (∀ j, j < n1 → p1 j (f1 j)) ∧ (∀ j, j < n2 → p2 j (f2 j)) ∧ (∀ j, j < n3 → p3 j (f3 j)) ∧ (∀ j, j < n4 → p4 j (f4 j)) := by
  obtain ⟨c0, v0, m0, q0, k0, ⟨f0, w0, g0⟩, u0⟩ := h0
  obtain ⟨c1, v1, m1, q1, k1, ⟨f1, w1, g1⟩, u1⟩ := (h1.keep (m' := m0) fun s hs => u0 s fun h => ((d s).1 h).1 hs).frz0
  obtain ⟨c2, v2, m2, q2, k2, ⟨f2, w2, g2⟩, u2⟩ := (h2.keep (m' := m1) fun s hs => by rw [u1 s fun h => ((d s).2.1 h).1 hs, u0 s fun h => ((d s).1 h).2.1 hs]).frz0
  obtain ⟨c3, v3, m3, q3, k3, ⟨f3, w3, g3⟩, u3⟩ := (h3.keep (m' := m2) fun s hs => by rw [u2 s fun h => ((d s).2.2.1 h).1 hs, u1 s fun h => ((d s).2.1 h).2.1 hs, u0 s fun h => ((d s).1 h).2.2.1 hs]).frz0
  obtain ⟨c4, v4, m4, q4, k4, ⟨f4, w4, g4⟩, u4⟩ := (h4.keep (m' := m3) fun s hs => by rw [u3 s fun h => (d s).2.2.2 h hs, u2 s fun h => ((d s).2.2.1 h).2 hs, u1 s fun h => ((d s).2.1 h).2.2 hs, u0 s fun h => ((d s).1 h).2.2.2 hs]).frz0
  refine ⟨c0 ∧ c1 ∧ c2 ∧ c3 ∧ c4 ∧ True, [v0, v1, v2, v3, v4], m4, by simp only [frzL, q0, q1, q2, q3, q4], ⟨k0, k1, k2, k3, k4, trivial⟩, f0, f1, f2, f3, f4, ?_, g0, g1, g2, g3, g4⟩
  simp only [List.map, w0, w1, w2, w3, w4]
/-- The same five lent. -/
theorem lend5 {S1 S2 S3 S4 : List Nat} {e1 e2 e3 e4 z1 z2 z3 z4 n0 n1 n2 n3 n4 : Nat} {p0 p1 p2 p3 p4 : Nat → AV → Prop} {x0 x1 x2 x3 x4 : AV} {m : Mem} (h0 : ∃ f, Go.Ab.rs0 m x0 = (True, .fs n0 f) ∧ ∀ j, j < n0 → p0 j (f j)) (h1 : AccP S1 e1 z1 n1 p1 x1 m) (h2 : AccP S2 e2 z2 n2 p2 x2 m) (h3 : AccP S3 e3 z3 n3 p3 x3 m) (h4 : AccP S4 e4 z4 n4 p4 x4 m) :
    ∃ f0 f1 f2 f3 f4, (Go.Ab.rs0 m x0 = (True, .fs n0 f0) ∧ Go.Ab.rs0 m x1 = (True, .fs n1 f1) ∧ Go.Ab.rs0 m x2 = (True, .fs n2 f2) ∧ Go.Ab.rs0 m x3 = (True, .fs n3 f3) ∧ Go.Ab.rs0 m x4 = (True, .fs n4 f4)) ∧ (∀ j, j < n0 → p0 j (f0 j)) ∧ (∀ j, j < n1 → p1 j (f1 j)) ∧ (∀ j, j < n2 → p2 j (f2 j)) ∧ (∀ j, j < n3 → p3 j (f3 j)) ∧ (∀ j, j < n4 → p4 j (f4 j)) := by
  obtain ⟨f0, q0, g0⟩ := h0
  obtain ⟨f1, q1, g1⟩ := h1.rs0
  obtain ⟨f2, q2, g2⟩ := h2.rs0
  obtain ⟨f3, q3, g3⟩ := h3.rs0
  obtain ⟨f4, q4, g4⟩ := h4.rs0
  exact ⟨f0, f1, f2, f3, f4, ⟨q0, q1, q2, q3, q4⟩, g0, g1, g2, g3, g4⟩
/-- Own rows let go first; what is nil counts as an empty slice. -/
theorem CallW.frzW {P : Program} {f : Nat} {args args' : List AV} {mem : Mem} {c : Prop} {mem' : Mem} {K : AV → Mem → Prop} (hz : frzAL args mem = some (c, args', mem')) (hc : c) (h : CallW P f (args'.map Go.Ab.wk) mem' K) : CallW P f args mem K := by
  refine ⟨h.1, fun X Y w0 w bl vs hw hs hv => ?_⟩
  obtain ⟨bl1, g1, g2, g3, g4, g5⟩ := frzAL_sound args mem bl (fun j => vs.getD j undef) c args' mem' hw hv hz hc
  refine (h.2 X Y w0 w bl1 vs g1 (by rw [List.length_map]; omega) (fun j hj => by
    rw [List.length_map] at hj
    rw [getD_map _ _ hj]
    exact .fz (g5 j (by omega)).wk)).mono fun e w' ⟨u, r, m', bl', he, hK, hw', hu, hF, hL⟩ => ?_
  exact ⟨u, r, m', bl', he, hK, hw', hu, fun b hb => hF b (g2 b hb), g3.trans hL⟩
end Go.Ab
