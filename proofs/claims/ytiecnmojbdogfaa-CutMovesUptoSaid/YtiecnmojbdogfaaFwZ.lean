/- Rows of one's own, let go and lent. -/
import Derived.Test.YtiecnmojbdogfaaSaBase
import Derived.Test.YtiecnmojbdogfaaFwT
set_option linter.unusedSimpArgs false
set_option linter.unusedVariables false
namespace Go.Ab
open Go
def AccL (S : List Nat) (e sz : Nat) (L : List AV) (v : AV) (m : Mem) : Prop := (L = [] ∧ v = .cap0) ∨ ∃ s ver g, s ∈ S ∧ v = .sl s ver L.length ∧ m s = .row ver e sz L.length g ∧ ∀ j, j < L.length → g j = L.getD j .undef
theorem AccL.keep {S : List Nat} {e sz : Nat} {L : List AV} {v : AV} {m m' : Mem} (h : AccL S e sz L v m) (hm : ∀ s, s ∈ S → m' s = m s) : AccL S e sz L v m' := by
  obtain h | ⟨s, ver, g, h1, h2, h3, h4⟩ := h
  · exact .inl h
  · exact .inr ⟨s, ver, g, h1, h2, (hm s h1).trans h3, h4⟩
theorem AccL.sub {S S' : List Nat} {e sz : Nat} {L : List AV} {v : AV} {m : Mem} (h : AccL S e sz L v m) (hs : ∀ s, s ∈ S → s ∈ S') : AccL S' e sz L v m := by
  obtain h | ⟨s, ver, g, h1, h2, h3, h4⟩ := h
  · exact .inl h
  · exact .inr ⟨s, ver, g, hs s h1, h2, h3, h4⟩
theorem AccL.first {S : List Nat} {e sz s V : Nat} {a : AV} {m : Mem} (hs : s ∈ S) : AccL S e sz [a] (.sl s V 1) (Mem.set s (.row V e sz 1 fun k => [a].getD k .undef) m) := by
  refine .inr ⟨s, V, _, hs, rfl, set_same _ _ _, fun j hj => ?_⟩
  obtain rfl : j = 0 := by simpa using hj
  rfl
theorem AccL.push {S : List Nat} {e sz s V : Nat} {L : List AV} {a : AV} {m : Mem} {g : Nat → AV} (hs : s ∈ S) (hg : ∀ j, j < L.length → g j = L.getD j .undef) : AccL S e sz (L ++ [a]) (.sl s V (L.length + 1)) (Mem.set s (.row V e sz (L.length + 1) fun k => bif decide (k < L.length) then g k else [a].getD (k - L.length) .undef) m) := by
  have hll : (L ++ [a]).length = L.length + 1 := by simp
  refine .inr ⟨s, V, _, hs, by rw [hll], by rw [hll]; exact set_same _ _ _, fun j hj => ?_⟩
  rw [hll] at hj
  by_cases ej : j < L.length
  · simp only [ej, decide_true, cond_true]
    rw [hg j ej, List.getD_eq_getElem?_getD, List.getD_eq_getElem?_getD, List.getElem?_append_left ej]
  · obtain rfl : j = L.length := by omega
    simp only [Nat.lt_irrefl, decide_false, cond_false, Nat.sub_self, List.getD_cons_zero]
    rw [List.getD_eq_getElem?_getD, List.getElem?_append_right (Nat.le_refl _)]
    simp
theorem AccL.put {S : List Nat} {e sz t : Nat} {L : List AV} {v : AV} {m : Mem} {o : AO} (h : AccL S e sz L v m) (hn : t ∉ S) : AccL S e sz L v (Mem.set t o m) := h.keep fun s hs => set_ne (fun e => by subst e; exact hn hs) _ _
/-- What it is behind a return, or lent. -/
theorem AccL.rs0 {S : List Nat} {e sz : Nat} {L : List AV} {v : AV} {m : Mem} (h : AccL S e sz L v m) : ∃ f, Go.Ab.rs0 m v = (True, .fs L.length f) ∧ ∀ j, j < L.length → f j = L.getD j .undef := by
  obtain ⟨rfl, rfl⟩ | ⟨s, ver, g, h1, rfl, h3, h4⟩ := h
  · exact ⟨_, rfl, fun j hj => absurd hj (Nat.not_lt_zero _)⟩
  · refine ⟨g, ?_, h4⟩
    simp only [Go.Ab.rs0, h3]
theorem AccL.rs2 {S : List Nat} {e sz : Nat} {L : List AV} {v : AV} {m : Mem} (h : AccL S e sz L v m) : ∃ f, Go.Ab.rs2 m v = (True, .fs L.length f) ∧ ∀ j, j < L.length → f j = L.getD j .undef := by
  obtain ⟨f, h1, h2⟩ := h.rs0
  obtain ⟨rfl, rfl⟩ | ⟨s, ver, g, _, rfl, h3, h4⟩ := h
  · exact ⟨f, h1, h2⟩
  · exact ⟨f, h1, h2⟩

/-- The same, with what is known of each element. -/
def AccP (S : List Nat) (e sz n : Nat) (p : Nat → AV → Prop) (v : AV) (m : Mem) : Prop := (n = 0 ∧ v = .cap0) ∨ ∃ s ver g, s ∈ S ∧ v = .sl s ver n ∧ m s = .row ver e sz n g ∧ (∀ i, i < n → p i (g i)) ∧ 0 < n
section
variable {S : List Nat} {e sz n : Nat} {p q : Nat → AV → Prop} {v : AV} {m m' : Mem}
theorem AccP.keep (h : AccP S e sz n p v m) (hm : ∀ s, s ∈ S → m' s = m s) : AccP S e sz n p v m' := by
  obtain h | ⟨s, ver, g, h1, h2, h3, h4⟩ := h
  · exact .inl h
  · exact .inr ⟨s, ver, g, h1, h2, (hm s h1).trans h3, h4⟩
theorem AccP.put {t : Nat} {o : AO} (h : AccP S e sz n p v m) (hn : t ∉ S) : AccP S e sz n p v (Mem.set t o m) := h.keep fun s hs => set_ne (fun e => by subst e; exact hn hs) _ _
theorem AccP.sub {S' : List Nat} (h : AccP S e sz n p v m) (hs : ∀ s, s ∈ S → s ∈ S') : AccP S' e sz n p v m := by
  obtain h | ⟨s, ver, g, h1, h2, h3, h4⟩ := h
  · exact .inl h
  · exact .inr ⟨s, ver, g, hs s h1, h2, h3, h4⟩
theorem AccP.to (h : AccP S e sz n p v m) (hp : ∀ i a, i < n → p i a → q i a) : AccP S e sz n q v m := by
  obtain h | ⟨s, ver, g, h1, h2, h3, h4⟩ := h
  · exact .inl h
  · exact .inr ⟨s, ver, g, h1, h2, h3, fun i hi => hp i _ hi (h4.1 i hi), h4.2⟩
theorem AccP.first {s V : Nat} {a : AV} (hs : s ∈ S) (ha : p 0 a) : AccP S e sz 1 p (.sl s V 1) (Mem.set s (.row V e sz 1 fun k => [a].getD k .undef) m) :=
  .inr ⟨s, V, _, hs, rfl, set_same _ _ _, fun j hj => by
    obtain rfl : j = 0 := by omega
    exact ha, Nat.one_pos⟩
theorem AccP.push {s V : Nat} {a : AV} {g : Nat → AV} (hs : s ∈ S) (hg : ∀ j, j < n → p j (g j)) (ha : p n a) : AccP S e sz (n + 1) p (.sl s V (n + 1)) (Mem.set s (.row V e sz (n + 1) fun k => bif decide (k < n) then g k else [a].getD (k - n) .undef) m) :=
  .inr ⟨s, V, _, hs, rfl, set_same _ _ _, fun j hj => by
    by_cases ej : j < n
    · simp only [ej, decide_true, cond_true]
      exact hg j ej
    · obtain rfl : j = n := by omega
      simp only [Nat.lt_irrefl, decide_false, cond_false, Nat.sub_self, List.getD_cons_zero]
      exact ha, Nat.succ_pos _⟩
theorem AccP.rs0 (h : AccP S e sz n p v m) : ∃ f, Go.Ab.rs0 m v = (True, .fs n f) ∧ ∀ j, j < n → p j (f j) := by
  obtain ⟨rfl, rfl⟩ | ⟨s, ver, g, h1, rfl, h3, h4⟩ := h
  · exact ⟨_, rfl, fun j hj => absurd hj (Nat.not_lt_zero _)⟩
  · refine ⟨g, ?_, h4.1⟩
    simp only [Go.Ab.rs0, h3]
theorem AccP.rs2 (h : AccP S e sz n p v m) : ∃ f, Go.Ab.rs2 m v = (True, .fs n f) ∧ ∀ j, j < n → p j (f j) := by
  obtain ⟨f, h1, h2⟩ := h.rs0
  obtain ⟨rfl, rfl⟩ | ⟨s, ver, g, _, rfl, h3, h4⟩ := h
  · exact ⟨f, h1, h2⟩
  · exact ⟨f, h1, h2⟩
end
/-- What turns nothing yields the same under any memory of the kind S0. -/
def aSchedR (P : Program) (al : List AOp) (b : Nat) (S0 : Mem → Prop) (K : Env → Mem → Prop) : List Nat → Env → Mem → Prop
  | [], env, mem => K env mem
  | i :: l, env, mem => match al[i]? with
    | none => False
    | some o => bif o.isV then
        match o.qval env mem with
        | some (c, v) => c ∧ (bif o.pureB then True else ∀ m, S0 m → ∃ c, o.qval env m = some (c, v) ∧ c) ∧ aSchedR P al b S0 K l (putO o.dst v env) mem
        | none => False
      else o.wp P env mem fun e m => (bif Nat.beq i b then True else S0 m) ∧ aSchedR P al b S0 K l e m

theorem aAny_schedR {P : Program} {al : List AOp} {deps : List (List Nat)} {b : Nat} {S0 : Mem → Prop} {K : Env → Mem → Prop} (hal : al.length = deps.length) :
    ∀ (l : List Nat) (listed : List Bool) (env : Env) (mem : Mem), schedB al deps b l listed = true → listed.length = deps.length → (listed.getD b false = true ∨ S0 mem) → aSchedR P al b S0 K l env mem →
      aAny P al deps (fun ls m => ls.getD b false = true ∨ S0 m) K l.length listed env mem
  | [], listed, env, mem, hB, hlen, hS, h => by
    simp only [schedB, List.isEmpty_iff] at hB
    exact ⟨hB, h⟩
  | i :: l, listed, env, mem, hB, hlen, hS, h => by
    simp only [schedB, Bool.and_eq_true] at hB
    obtain ⟨hB1, hB2⟩ := hB
    simp only [aSchedR] at h
    cases hi : al[i]? with
    | none => rw [hi] at h; exact h.elim
    | some o =>
      rw [hi] at h hB1
      simp only at h hB1
      cases hv : o.isV with
      | true =>
        rw [hv] at h hB1
        simp only [cond_true, Bool.and_eq_true, Bool.or_eq_true, Bool.not_eq_true'] at h hB1
        rcases hB1 with hB1 | ⟨hmv, hB1⟩
        case inr =>
          obtain ⟨d, x, rfl⟩ := AOp.mvB_of hmv
          have hr : readyA deps listed = [i] := by
            split at hB1
            · rename_i j hj
              rw [hj, Nat.eq_of_beq_eq_true hB1]
            · cases hB1
          refine ⟨fun e => (by rw [hr] at e; cases e), fun j hj => ?_⟩
          rw [hr] at hj
          simp only [List.mem_singleton] at hj
          subst hj
          have hS' : (listed.set j true).getD b false = true ∨ S0 mem := hS.imp (fun hb => by
            rw [List.getD_eq_getElem?_getD, List.getElem?_set] at *
            split
            · rename_i e
              subst e
              split
              · rfl
              · rename_i hge
                rw [List.getElem?_eq_none (by omega)] at hb; cases hb
            · exact hb) id
          exact ⟨_, hi, trivial, hS', aAny_schedR hal l _ _ _ hB2 (by simpa using hlen) hS' h.2.2⟩
        obtain ⟨⟨⟨c1, c2⟩, c3⟩, c4⟩ := hB1
        have hA : S0 mem := hS.resolve_left (by rw [c4]; simp)
        split at h
        · rename_i c v hq
          obtain ⟨hc, hst, hrest⟩ := h
          have hri : i ∈ readyA deps listed := by
            obtain ⟨j, hj, e⟩ := List.any_eq_true.1 c1
            have := Nat.eq_of_beq_eq_true e
            rw [this]; exact hj
          refine aAny_first hi l.length listed env mem ?_ c4 hlen hri (fun m hm => ?_) hA (fun j oj hj hji hun hno => ?_) (aAny_schedR hal l _ _ _ hB2 (by simpa using hlen) (.inr hA) hrest)
          · rcases c3 with c3 | c3
            · exact .inl (Nat.le_of_ble_eq_true c3)
            · exact .inr ⟨late_of c3.1, ne_of_beq_false c3.2⟩
          · cases hp : o.pureB with
            | true => exact ⟨c, by rw [AOp.pure_qval hp (m' := mem)]; exact hq, hc⟩
            | false => rw [hp] at hst; exact hst m hm
          · have := List.all_eq_true.1 c2 j (List.mem_range.2 (List.getElem?_eq_some_iff.1 hj).1)
            simp only [Bool.or_eq_true] at this
            rcases this with ((h1 | h1) | h1) | h1
            · exact absurd (Nat.eq_of_beq_eq_true h1) hji
            · rw [hun] at h1; cases h1
            · exfalso
              obtain ⟨k, hk, e⟩ := List.any_eq_true.1 h1
              have := Nat.eq_of_beq_eq_true e
              rw [← this] at hk
              exact hno hk
            · rw [hj] at h1; exact h1
        · exact h.elim
      | false =>
        rw [hv] at h hB1
        simp only [cond_false] at h hB1
        have hr : readyA deps listed = [i] := by
          split at hB1
          · rename_i j hj
            rw [hj, Nat.eq_of_beq_eq_true hB1]
          · cases hB1
        refine ⟨fun e => (by rw [hr] at e; cases e), fun j hj => ?_⟩
        rw [hr] at hj
        simp only [List.mem_singleton] at hj
        subst hj
        refine ⟨o, hi, AOp.wp_mono h fun e m ⟨hA, hrest⟩ => ?_⟩
        have hlt : j < listed.length := by
          have : j ∈ readyA deps listed := by rw [hr]; simp
          have := (mem_readyA.1 this).1; omega
        have hS' : (listed.set j true).getD b false = true ∨ S0 m := by
          cases hb : Nat.beq j b with
          | true =>
            have := Nat.eq_of_beq_eq_true hb
            subst this
            exact .inl (by simp [List.getD_eq_getElem?_getD, hlt])
          | false => rw [hb] at hA; exact .inr hA
        exact ⟨hS', aAny_schedR hal l _ _ _ hB2 (by simpa using hlen) hS' hrest⟩

section
variable {P : Program} {env : Env} {mem m : Mem} {al : List AOp} {b i : Nat} {S0 : Mem → Prop} {K : Env → Mem → Prop} {l : List Nat} {d : Option Nat} {Q : AX → Env → Mem → Prop}
/-- **A region of open order: what is read of an object stays, though a call turns the rest of it.** -/
theorem vAnyR {deps : List (List Nat)} (l : List Nat) (b : Nat) (S0 : Mem → Prop) (hB : schedB al deps b l (List.replicate al.length false) = true) (hl : (Nat.beq al.length deps.length && Nat.beq l.length al.length) = true) (hS : S0 mem)
    (h : aSchedR P al b S0 (Q .normal) l env mem) : awp P (.any al deps) Q env mem := by
  simp only [Bool.and_eq_true] at hl
  have h1 := Nat.eq_of_beq_eq_true hl.1
  have h2 := Nat.eq_of_beq_eq_true hl.2
  have := aAny_schedR (P := P) (al := al) (deps := deps) (b := b) (S0 := S0) (K := Q .normal) h1 l (List.replicate al.length false) env mem hB (by simp [h1]) (.inr hS) h
  rw [h2] at this
  exact ⟨_, this⟩
def srO (P : Program) (oo : Option AOp) (i : Nat) (al : List AOp) (b : Nat) (S0 : Mem → Prop) (K : Env → Mem → Prop) (l : List Nat) (env : Env) (mem : Mem) : Prop :=
  match oo with
  | none => False
  | some o => bif o.isV then
        match o.qval env mem with
        | some (c, v) => c ∧ (bif o.pureB then True else ∀ m, S0 m → ∃ c, o.qval env m = some (c, v) ∧ c) ∧ aSchedR P al b S0 K l (putO o.dst v env) mem
        | none => False
      else o.wp P env mem fun e m => (bif Nat.beq i b then True else S0 m) ∧ aSchedR P al b S0 K l e m
def srV (P : Program) (r : Option (Prop × AV)) (x : AI) (pu : Bool) (d : Option Nat) (al : List AOp) (b : Nat) (S0 : Mem → Prop) (K : Env → Mem → Prop) (l : List Nat) (env : Env) (mem : Mem) : Prop :=
  match r with
  | some (c, v) => c ∧ (bif pu then True else ∀ m, S0 m → ∃ c, x.val env m = some (c, v) ∧ c) ∧ aSchedR P al b S0 K l (putO d v env) mem
  | none => False
def srK (P : Program) (i : Nat) (d : Option Nat) (al : List AOp) (b : Nat) (S0 : Mem → Prop) (K : Env → Mem → Prop) (l : List Nat) (env : Env) : AV → Mem → Prop := fun v m => (bif Nat.beq i b then True else S0 m) ∧ aSchedR P al b S0 K l (putO d v env) m
def srC (P : Program) (f : AV) (args : List AV) (i : Nat) (d : Option Nat) (al : List AOp) (b : Nat) (S0 : Mem → Prop) (K : Env → Mem → Prop) (l : List Nat) (env : Env) (mem : Mem) : Prop :=
  match f with
  | .fn g caps => CallW P g (args ++ caps) mem (srK P i d al b S0 K l env)
  | _ => False
def srE (P : Program) (r : Option (Prop × AV × Mem)) (i : Nat) (d : Option Nat) (al : List AOp) (b : Nat) (S0 : Mem → Prop) (K : Env → Mem → Prop) (l : List Nat) (env : Env) : Prop :=
  match r with
  | some (c, v, m) => c ∧ (bif Nat.beq i b then True else S0 m) ∧ aSchedR P al b S0 K l (putO d v env) m
  | none => False
theorem srNil : aSchedR P al b S0 K [] env mem = K env mem := rfl
theorem srCons : aSchedR P al b S0 K (i :: l) env mem = srO P al[i]? i al b S0 K l env mem := by
  simp only [aSchedR, srO]
theorem srOV {x : AI} : srO P (some ⟨d, none, .v x⟩) i al b S0 K l env mem = srV P (x.val env mem) x (AOp.pureB ⟨d, none, .v x⟩) d al b S0 K l env mem := by
  simp only [srO, AOp.isV, cond_true, AOp.qval, srV]
theorem srVS {x : AI} {pu : Bool} {c : Prop} {v : AV} : srV P (some (c, v)) x pu d al b S0 K l env mem = (c ∧ (bif pu then True else ∀ m, S0 m → ∃ c, x.val env m = some (c, v) ∧ c) ∧ aSchedR P al b S0 K l (putO d v env) mem) := rfl
theorem srOC {f : Opd} {args : List Opd} : srO P (some ⟨d, none, .call f args⟩) i al b S0 K l env mem = srC P (f.ev env) (args.map (Opd.ev env)) i d al b S0 K l env mem := by
  simp only [srO, AOp.isV, cond_false, AOp.wp, AOp.act, srC]
  cases f.ev env <;> rfl
theorem srCS {g : Nat} {caps args : List AV} : srC P (.fn g caps) args i d al b S0 K l env mem = CallW P g (args ++ caps) mem (srK P i d al b S0 K l env) := rfl
theorem srK_at {v : AV} : srK P i d al b S0 K l env v m = ((bif Nat.beq i b then True else S0 m) ∧ aSchedR P al b S0 K l (putO d v env) m) := rfl
theorem srOE {x : EI} : srO P (some ⟨d, none, .e x⟩) i al b S0 K l env mem = srE P (x.run env mem) i d al b S0 K l env := by
  simp only [srO, AOp.isV, cond_false, AOp.wp, AOp.act, srE]
  cases x.run env mem <;> rfl
theorem srES {c : Prop} {v : AV} : srE P (some (c, v, m)) i d al b S0 K l env = (c ∧ (bif Nat.beq i b then True else S0 m) ∧ aSchedR P al b S0 K l (putO d v env) m) := rfl
end
end Go.Ab
namespace Go.Ab
open Go
section
variable {S : List Nat} {e sz n : Nat} {p : Nat → AV → Prop} {v : AV} {m : Mem}
theorem AccP.cell (h : AccP S e sz n p v m) : v.okv = true ∧ v.cells = [v] ∧ v.isCell = true := by
  rcases h with ⟨_, rfl⟩ | ⟨_, _, _, _, rfl, _, _⟩ <;> exact ⟨rfl, rfl, rfl⟩
theorem AccP.frz0 (h : AccP S e sz n p v m) : ∃ c v' m', Go.Ab.frz0 m v = some (c, v', m') ∧ c ∧ (∃ f, Go.Ab.wk0 v' = .fs n f ∧ ∀ j, j < n → p j (f j)) ∧ ∀ o, o ∉ S → m' o = m o := by
  obtain ⟨rfl, rfl⟩ | ⟨s, ver, g, h1, rfl, h3, h4⟩ := h
  · exact ⟨_, _, _, rfl, trivial, ⟨_, rfl, fun j hj => absurd hj (Nat.not_lt_zero _)⟩, fun _ _ => rfl⟩
  · refine ⟨True, .fs n g, Mem.set s (.dead (ver + 1)) m, by simp only [Go.Ab.frz0, h3], trivial, ⟨g, rfl, h4.1⟩, fun o ho => set_ne (fun e => by subst e; exact ho h1) _ _⟩
end
/-- Five rows of one's own let go. -/
theorem frz5 {S0 S1 S2 S3 S4 : List Nat} {e1 e2 e3 e4 z1 z2 z3 z4 n0 n1 n2 n3 n4 : Nat} {p0 p1 p2 p3 p4 : Nat → AV → Prop} {x0 x1 x2 x3 x4 : AV} {m : Mem} (h0 : ∃ c v' m', Go.Ab.frz0 m x0 = some (c, v', m') ∧ c ∧ (∃ f, Go.Ab.wk0 v' = .fs n0 f ∧ ∀ j, j < n0 → p0 j (f j)) ∧ ∀ o, o ∉ S0 → m' o = m o) (h1 : AccP S1 e1 z1 n1 p1 x1 m) (h2 : AccP S2 e2 z2 n2 p2 x2 m) (h3 : AccP S3 e3 z3 n3 p3 x3 m) (h4 : AccP S4 e4 z4 n4 p4 x4 m)
    (d : ∀ s, (s ∈ S0 → s ∉ S1 ∧ s ∉ S2 ∧ s ∉ S3 ∧ s ∉ S4) ∧ (s ∈ S1 → s ∉ S2 ∧ s ∉ S3 ∧ s ∉ S4) ∧ (s ∈ S2 → s ∉ S3 ∧ s ∉ S4) ∧ (s ∈ S3 → s ∉ S4)) :
    ∃ c r m', frzL [x0, x1, x2, x3, x4] m = some (c, r, m') ∧ c ∧ ∃ f0 f1 f2 f3 f4, r.map wk0 = [.fs n0 f0, .fs n1 f1, .fs n2 f2, .fs n3 f3, .fs n4 f4] ∧ (∀ j, j < n0 → p0 j (f0 j)) ∧ (∀ j, j < n1 → p1 j (f1 j)) ∧ (∀ j, j < n2 → p2 j (f2 j)) ∧ (∀ j, j < n3 → p3 j (f3 j)) ∧ (∀ j, j < n4 → p4 j (f4 j)) := by
  obtain ⟨c0, v0, m0, q0, k0, ⟨f0, w0, g0⟩, u0⟩ := h0
  obtain ⟨c1, v1, m1, q1, k1, ⟨f1, w1, g1⟩, u1⟩ := (h1.keep (m' := m0) fun s hs => u0 s fun h => ((d s).1 h).1 hs).frz0
  obtain ⟨c2, v2, m2, q2, k2, ⟨f2, w2, g2⟩, u2⟩ := (h2.keep (m' := m1) fun s hs => by rw [u1 s fun h => ((d s).2.1 h).1 hs, u0 s fun h => ((d s).1 h).2.1 hs]).frz0
  obtain ⟨c3, v3, m3, q3, k3, ⟨f3, w3, g3⟩, u3⟩ := (h3.keep (m' := m2) fun s hs => by rw [u2 s fun h => ((d s).2.2.1 h).1 hs, u1 s fun h => ((d s).2.1 h).2.1 hs, u0 s fun h => ((d s).1 h).2.2.1 hs]).frz0
  obtain ⟨c4, v4, m4, q4, k4, ⟨f4, w4, g4⟩, u4⟩ := (h4.keep (m' := m3) fun s hs => by rw [u3 s fun h => (d s).2.2.2 h hs, u2 s fun h => ((d s).2.2.1 h).2 hs, u1 s fun h => ((d s).2.1 h).2.2 hs, u0 s fun h => ((d s).1 h).2.2.2 hs]).frz0
  refine ⟨c0 ∧ c1 ∧ c2 ∧ c3 ∧ c4 ∧ True, [v0, v1, v2, v3, v4], m4, by simp only [frzL, q0, q1, q2, q3, q4], ⟨k0, k1, k2, k3, k4, trivial⟩, f0, f1, f2, f3, f4, ?_, g0, g1, g2, g3, g4⟩
  simp only [List.map, w0, w1, w2, w3, w4]
/-- The same five lent. -/
theorem lend5 {S1 S2 S3 S4 : List Nat} {e1 e2 e3 e4 z1 z2 z3 z4 n0 n1 n2 n3 n4 : Nat} {p0 p1 p2 p3 p4 : Nat → AV → Prop} {x0 x1 x2 x3 x4 : AV} {m : Mem} (h0 : ∃ f, Go.Ab.rs0 m x0 = (True, .fs n0 f) ∧ ∀ j, j < n0 → p0 j (f j)) (h1 : AccP S1 e1 z1 n1 p1 x1 m) (h2 : AccP S2 e2 z2 n2 p2 x2 m) (h3 : AccP S3 e3 z3 n3 p3 x3 m) (h4 : AccP S4 e4 z4 n4 p4 x4 m) :
    ∃ f0 f1 f2 f3 f4, (Go.Ab.rs0 m x0 = (True, .fs n0 f0) ∧ Go.Ab.rs0 m x1 = (True, .fs n1 f1) ∧ Go.Ab.rs0 m x2 = (True, .fs n2 f2) ∧ Go.Ab.rs0 m x3 = (True, .fs n3 f3) ∧ Go.Ab.rs0 m x4 = (True, .fs n4 f4)) ∧ (∀ j, j < n0 → p0 j (f0 j)) ∧ (∀ j, j < n1 → p1 j (f1 j)) ∧ (∀ j, j < n2 → p2 j (f2 j)) ∧ (∀ j, j < n3 → p3 j (f3 j)) ∧ (∀ j, j < n4 → p4 j (f4 j)) := by
  obtain ⟨f0, q0, g0⟩ := h0
  obtain ⟨f1, q1, g1⟩ := h1.rs0
  obtain ⟨f2, q2, g2⟩ := h2.rs0
  obtain ⟨f3, q3, g3⟩ := h3.rs0
  obtain ⟨f4, q4, g4⟩ := h4.rs0
  exact ⟨f0, f1, f2, f3, f4, ⟨q0, q1, q2, q3, q4⟩, g0, g1, g2, g3, g4⟩
/-- Own rows let go first; what is nil counts as an empty slice. -/
theorem CallW.frzW {P : Program} {f : Nat} {args args' : List AV} {mem : Mem} {c : Prop} {mem' : Mem} {K : AV → Mem → Prop} (hz : frzAL args mem = some (c, args', mem')) (hc : c) (h : CallW P f (args'.map Go.Ab.wk) mem' K) : CallW P f args mem K := by
  refine ⟨h.1, fun X Y w0 w bl vs hw hs hv => ?_⟩
  obtain ⟨bl1, g1, g2, g3, g4, g5⟩ := frzAL_sound args mem bl (fun j => vs.getD j undef) c args' mem' hw hv hz hc
  refine (h.2 X Y w0 w bl1 vs g1 (by rw [List.length_map]; omega) (fun j hj => by
    rw [List.length_map] at hj
    rw [getD_map _ _ hj]
    exact .fz (g5 j (by omega)).wk)).mono fun e w' ⟨u, r, m', bl', he, hK, hw', hu, hF, hL⟩ => ?_
  exact ⟨u, r, m', bl', he, hK, hw', hu, fun b hb => hF b (g2 b hb), g3.trans hL⟩
/-- One argument of many is let go. -/
theorem CallW.frzK {P : Program} {f : Nat} (k : Nat) {args : List AV} {v' : AV} {mem : Mem} {c : Prop} {mem' : Mem} {K : AV → Mem → Prop} (hk : k < args.length) (hz : frzA (args.getD k .undef) mem = some (c, v', mem')) (hc : c) (h : CallW P f (args.set k (Go.Ab.wk v')) mem' K) : CallW P f args mem K := by
  refine ⟨h.1, fun X Y w0 w bl vs hw hs hv => ?_⟩
  obtain ⟨bl1, g1, g2, g3, g4⟩ := frzA_sound hw (hv k hk) hz hc
  refine (h.2 X Y w0 w bl1 vs g1 (by rw [List.length_set]; exact hs) (fun j hj => by
    rw [List.length_set] at hj
    by_cases e : k = j
    · subst e
      rw [List.getD_eq_getElem?_getD, List.getElem?_set_self hk]
      exact .fz g4.wk
    · rw [List.getD_eq_getElem?_getD (l := args.set k _), List.getElem?_set_ne e, ← List.getD_eq_getElem?_getD]
      exact (hv j hj).mono (fun b hb => ⟨g2 b hb, rfl⟩) g3)).mono fun e w' ⟨u, r, m', bl', he, hK, hw', hu, hF, hL⟩ => ?_
  exact ⟨u, r, m', bl', he, hK, hw', hu, fun b hb => hF b (g2 b hb), g3.trans hL⟩
/-! ### a range over a map -/
def nxL (P : Program) (v : AV) (d : Option Nat) (K : Env → Mem → Prop) (rest : List AOp) (env : Env) (mem : Mem) : Prop :=
  match v with
  | .it id ver => match mem id with
    | .iter ver' dk k p g _ => ver = ver' ∧ ((∀ key, p key = false) → awpL P K rest (putO d (.tup [.bool false]) env) mem) ∧
        ∀ key, p key = true → awpL P K rest (putO d (.tup [.bool true, .undef, .undef]) env) (Mem.set id (.iter ver' dk k (fun q => bif keyEq q key then false else p q) g (some key)) mem)
    | _ => False
  | _ => False
theorem aNx {P : Program} {d : Option Nat} {x : Opd} {K : Env → Mem → Prop} {rest : List AOp} {env : Env} {mem : Mem} : actL P d (.next x) K rest env mem = nxL P (x.ev env) d K rest env mem := rfl
theorem nxI {P : Program} {d : Option Nat} {K : Env → Mem → Prop} {rest : List AOp} {env : Env} {mem : Mem} {id ver ver' : Nat} {dk : MK} {k : Option IntKind} {p : Value → Bool} {g : Value → Int} {cur : Option Value} (hm : mem id = .iter ver' dk k p g cur) :
    nxL P (.it id ver) d K rest env mem = (ver = ver' ∧ ((∀ key, p key = false) → awpL P K rest (putO d (.tup [.bool false]) env) mem) ∧
        ∀ key, p key = true → awpL P K rest (putO d (.tup [.bool true, .undef, .undef]) env) (Mem.set id (.iter ver' dk k (fun q => bif keyEq q key then false else p q) g (some key)) mem)) := by
  simp only [nxL, hm]
end Go.Ab
