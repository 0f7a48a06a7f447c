/- Regions of open order: quiet operations first, then all orders that are left, one by one. -/
import Derived.Test.YtodncnlnadgkhacFwT
set_option linter.unusedSimpArgs false
set_option linter.unusedVariables false
set_option linter.defProp false
namespace Go.Ab
open Go

/-- The orders that are left. -/
inductive OT where
  | leaf
  | step (i : Nat) (t : OT)
  | fork (a b : OT)
def OT.isLeaf : OT → Bool
  | .leaf => true
  | _ => false
def OT.dep : OT → Nat
  | .leaf => 0
  | .step _ t => t.dep + 1
  | .fork a b => max a.dep b.dep
def OT.cov (deps : List (List Nat)) : OT → Nat → List Bool → Bool
  | .leaf, _, _ => false
  | .step j t, k, ls => Nat.beq k j && (bif t.isLeaf then (readyA deps (ls.set k true)).isEmpty else !(readyA deps (ls.set k true)).isEmpty && (readyA deps (ls.set k true)).all fun i => t.cov deps i (ls.set k true))
  | .fork a b, k, ls => a.cov deps k ls || b.cov deps k ls
def OT.top (deps : List (List Nat)) (t : OT) (ls : List Bool) : Bool := bif t.isLeaf then (readyA deps ls).isEmpty else !(readyA deps ls).isEmpty && (readyA deps ls).all fun i => t.cov deps i ls
def aT (P : Program) (al : List AOp) (S0 : Mem → Prop) (K : Env → Mem → Prop) : OT → Env → Mem → Prop
  | .leaf, e, m => K e m
  | .step i t, e, m => match al[i]? with
    | none => False
    | some o => o.wp P e m fun e m => S0 m ∧ aT P al S0 K t e m
  | .fork a b, e, m => aT P al S0 K a e m ∧ aT P al S0 K b e m
theorem aT_cov {P : Program} {al : List AOp} {deps : List (List Nat)} {S0 : Mem → Prop} {K : Env → Mem → Prop} {k : Nat} {ls : List Bool} {e : Env} {m : Mem} :
    ∀ t : OT, t.cov deps k ls = true → aT P al S0 K t e m → ∃ o t', al[k]? = some o ∧ o.wp P e m (fun e m => S0 m ∧ aT P al S0 K t' e m) ∧ t'.top deps (ls.set k true) = true ∧ t'.dep + 1 ≤ t.dep
  | .leaf, h, _ => Bool.noConfusion h
  | .step j t, h, ha => by
    simp only [OT.cov, Bool.and_eq_true] at h
    obtain ⟨h1, h2⟩ := h
    obtain rfl := Nat.eq_of_beq_eq_true h1
    simp only [aT] at ha
    cases ho : al[k]? with
    | none => rw [ho] at ha; exact ha.elim
    | some o => rw [ho] at ha; exact ⟨o, t, rfl, ha, h2, Nat.le_refl _⟩
  | .fork a b, h, ha => by
    simp only [OT.cov, Bool.or_eq_true] at h
    simp only [aT] at ha
    rcases h with h | h
    · obtain ⟨o, t', h1, h2, h3, h4⟩ := aT_cov a h ha.1
      exact ⟨o, t', h1, h2, h3, Nat.le_trans h4 (Nat.le_max_left _ _)⟩
    · obtain ⟨o, t', h1, h2, h3, h4⟩ := aT_cov b h ha.2
      exact ⟨o, t', h1, h2, h3, Nat.le_trans h4 (Nat.le_max_right _ _)⟩
theorem aT_any {P : Program} {al : List AOp} {deps : List (List Nat)} {b : Nat} {S0 : Mem → Prop} {K : Env → Mem → Prop} :
    ∀ (fuel : Nat) (t : OT) (ls : List Bool) (e : Env) (m : Mem), t.dep ≤ fuel → t.top deps ls = true → aT P al S0 K t e m → aAny P al deps (fun ls m => ls.getD b false = true ∨ S0 m) K fuel ls e m := by
  have leafy : ∀ {t : OT} {ls : List Bool} {e : Env} {m : Mem}, t.top deps ls = true → aT P al S0 K t e m → readyA deps ls = [] → K e m := fun {t ls e m} h ha hr => by
    cases t with
    | leaf => exact ha
    | step j t => simp [OT.top, OT.isLeaf, hr] at h
    | fork a b => simp [OT.top, OT.isLeaf, hr] at h
  have next : ∀ {t : OT} {ls : List Bool} {e : Env} {m : Mem}, t.top deps ls = true → aT P al S0 K t e m → ∀ i, i ∈ readyA deps ls → t.cov deps i ls = true := fun {t ls e m} h ha i hi => by
    cases t with
    | leaf =>
      simp only [OT.top, OT.isLeaf, cond_true, List.isEmpty_iff] at h
      rw [h] at hi; cases hi
    | step j t =>
      simp only [OT.top, OT.isLeaf, cond_false, Bool.and_eq_true] at h
      exact List.all_eq_true.1 h.2 i hi
    | fork a b =>
      simp only [OT.top, OT.isLeaf, cond_false, Bool.and_eq_true] at h
      exact List.all_eq_true.1 h.2 i hi
  intro fuel
  induction fuel with
  | zero =>
    intro t ls e m hd h ha
    have hr : readyA deps ls = [] := by
      cases hq : readyA deps ls with
      | nil => rfl
      | cons i r =>
        obtain ⟨o, t', _, _, _, h4⟩ := aT_cov t (next h ha i (by rw [hq]; exact .head _)) ha
        omega
    exact ⟨hr, leafy h ha hr⟩
  | succ fuel ih =>
    intro t ls e m hd h ha
    refine ⟨leafy h ha, fun i hi => ?_⟩
    obtain ⟨o, t', h1, h2, h3, h4⟩ := aT_cov t (next h ha i hi) ha
    exact ⟨o, h1, AOp.wp_mono h2 fun e m ⟨q1, q2⟩ => ⟨.inr q1, ih t' _ _ _ (by omega) h3 q2⟩⟩

def aSchedT (P : Program) (al : List AOp) (S0 : Mem → Prop) (K : Env → Mem → Prop) (t : OT) : List Nat → Env → Mem → Prop
  | [], env, mem => aT P al S0 K t env mem
  | i :: l, env, mem => match al[i]? with
    | none => False
    | some o => match o.qval env mem with
      | some (c, v) => c ∧ (bif o.pureB then True else ∀ m, S0 m → ∃ c, o.qval env m = some (c, v) ∧ c) ∧ aSchedT P al S0 K t l (putO o.dst v env) mem
      | none => False
def schedT (al : List AOp) (deps : List (List Nat)) (t : OT) : List Nat → List Bool → Bool
  | [], listed => t.top deps listed
  | i :: l, listed => (match al[i]? with
    | none => false
    | some o => o.isV && (readyA deps listed).any (Nat.beq i) && freeB al deps listed i o) && schedT al deps t l (listed.set i true)
theorem aAny_schedT {P : Program} {al : List AOp} {deps : List (List Nat)} {S0 : Mem → Prop} {K : Env → Mem → Prop} {t : OT} (n : Nat) (hn : t.dep ≤ n) :
    ∀ (l : List Nat) (listed : List Bool) (env : Env) (mem : Mem), schedT al deps t l listed = true → listed.length = deps.length → S0 mem → aSchedT P al S0 K t l env mem →
      aAny P al deps (fun ls m => ls.getD deps.length false = true ∨ S0 m) K (l.length + n) listed env mem
  | [], listed, env, mem, hB, hlen, hS, h => by
    rw [List.length_nil, Nat.zero_add]
    exact aT_any _ _ _ _ _ hn hB h
  | i :: l, listed, env, mem, hB, hlen, hS, h => by
    simp only [schedT, Bool.and_eq_true] at hB
    obtain ⟨hB1, hB2⟩ := hB
    simp only [aSchedT] at h
    cases hi : al[i]? with
    | none => rw [hi] at h; exact h.elim
    | some o =>
      rw [hi] at h hB1
      simp only [Bool.and_eq_true] at h hB1
      obtain ⟨⟨c0, c1⟩, c2⟩ := hB1
      split at h
      · rename_i c v hq
        obtain ⟨hc, hst, hrest⟩ := h
        have hri : i ∈ readyA deps listed := by
          obtain ⟨j, hj, e⟩ := List.any_eq_true.1 c1
          have := Nat.eq_of_beq_eq_true e
          rw [this]; exact hj
        have hfree : ∀ j oj, al[j]? = some oj → j ≠ i → listed.getD j true = false → i ∉ deps.getD j [] → o.apart oj = true := fun j oj hj hji hun hno => by
          have := List.all_eq_true.1 c2 j (List.mem_range.2 (List.getElem?_eq_some_iff.1 hj).1)
          simp only [Bool.or_eq_true] at this
          rcases this with ((h1 | h1) | h1) | h1
          · exact absurd (Nat.eq_of_beq_eq_true h1) hji
          · rw [hun] at h1; cases h1
          · exfalso
            obtain ⟨k, hk, e⟩ := List.any_eq_true.1 h1
            have := Nat.eq_of_beq_eq_true e
            rw [← this] at hk
            exact hno hk
          · rw [hj] at h1; exact h1
        have ih := aAny_schedT (P := P) (S0 := S0) (K := K) n hn l (listed.set i true) (putO o.dst v env) mem hB2 (by simpa using hlen) hS hrest
        rw [List.length_cons, show l.length + 1 + n = (l.length + n) + 1 by omega]
        refine aAny_first hi (l.length + n) listed env mem (.inl (Nat.le_refl _)) (by rw [← hlen]; simp [List.getD_eq_getElem?_getD]) hlen hri (fun m hm => ?_) hS hfree ih
        cases hp : o.pureB with
        | true => exact ⟨c, by rw [AOp.pure_qval hp (m' := mem)]; exact hq, hc⟩
        | false => rw [hp] at hst; exact hst m hm
      · exact h.elim

section
variable {P : Program} {env : Env} {mem m : Mem} {al : List AOp} {i : Nat} {S0 : Mem → Prop} {K : Env → Mem → Prop} {l : List Nat} {d : Option Nat} {Q : AX → Env → Mem → Prop} {t u : OT}
/-- **A region of open order: the quiet operations l first, then every order of t.** What the quiet ones read stays all along (S0). -/
theorem vAnyT {deps : List (List Nat)} (l : List Nat) (t : OT) (S0 : Mem → Prop) (hB : schedT al deps t l (List.replicate al.length false) = true) (hl : (Nat.beq al.length deps.length && Nat.ble (l.length + t.dep) al.length) = true) (hS : S0 mem)
    (h : aSchedT P al S0 (Q .normal) t l env mem) : awp P (.any al deps) Q env mem := by
  simp only [Bool.and_eq_true] at hl
  have h1 := Nat.eq_of_beq_eq_true hl.1
  have h2 := Nat.le_of_ble_eq_true hl.2
  have := aAny_schedT (P := P) (al := al) (deps := deps) (S0 := S0) (K := Q .normal) (t := t) (al.length - l.length) (by omega) l (List.replicate al.length false) env mem hB (by simp [h1]) hS h
  rw [show l.length + (al.length - l.length) = al.length by omega] at this
  exact ⟨_, this⟩
def tqV (P : Program) (r : Option (Prop × AV)) (x : AI) (pu : Bool) (d : Option Nat) (al : List AOp) (S0 : Mem → Prop) (K : Env → Mem → Prop) (t : OT) (l : List Nat) (env : Env) (mem : Mem) : Prop :=
  match r with
  | some (c, v) => c ∧ (bif pu then True else ∀ m, S0 m → ∃ c, x.val env m = some (c, v) ∧ c) ∧ aSchedT P al S0 K t l (putO d v env) mem
  | none => False
def tqO (P : Program) (oo : Option AOp) (al : List AOp) (S0 : Mem → Prop) (K : Env → Mem → Prop) (t : OT) (l : List Nat) (env : Env) (mem : Mem) : Prop :=
  match oo with
  | none => False
  | some o => match o.qval env mem with
    | some (c, v) => c ∧ (bif o.pureB then True else ∀ m, S0 m → ∃ c, o.qval env m = some (c, v) ∧ c) ∧ aSchedT P al S0 K t l (putO o.dst v env) mem
    | none => False
def tO (P : Program) (oo : Option AOp) (al : List AOp) (S0 : Mem → Prop) (K : Env → Mem → Prop) (t : OT) (env : Env) (mem : Mem) : Prop :=
  match oo with
  | none => False
  | some o => o.wp P env mem fun e m => S0 m ∧ aT P al S0 K t e m
def tV (P : Program) (r : Option (Prop × AV)) (d : Option Nat) (al : List AOp) (S0 : Mem → Prop) (K : Env → Mem → Prop) (t : OT) (env : Env) (mem : Mem) : Prop :=
  match r with
  | some (c, v) => c ∧ S0 mem ∧ aT P al S0 K t (putO d v env) mem
  | none => False
def tE (P : Program) (r : Option (Prop × AV × Mem)) (d : Option Nat) (al : List AOp) (S0 : Mem → Prop) (K : Env → Mem → Prop) (t : OT) (env : Env) : Prop :=
  match r with
  | some (c, v, m) => c ∧ S0 m ∧ aT P al S0 K t (putO d v env) m
  | none => False
def tK (P : Program) (d : Option Nat) (al : List AOp) (S0 : Mem → Prop) (K : Env → Mem → Prop) (t : OT) (env : Env) : AV → Mem → Prop := fun v m => S0 m ∧ aT P al S0 K t (putO d v env) m
def tC (P : Program) (f : AV) (args : List AV) (d : Option Nat) (al : List AOp) (S0 : Mem → Prop) (K : Env → Mem → Prop) (t : OT) (env : Env) (mem : Mem) : Prop :=
  match f with
  | .fn g caps => CallW P g (args ++ caps) mem (tK P d al S0 K t env)
  | _ => False
theorem tqNil : aSchedT P al S0 K t [] env mem = aT P al S0 K t env mem := rfl
theorem tqCons : aSchedT P al S0 K t (i :: l) env mem = tqO P al[i]? al S0 K t l env mem := by
  simp only [aSchedT, tqO]
theorem tqOV {x : AI} : tqO P (some ⟨d, none, .v x⟩) al S0 K t l env mem = tqV P (x.val env mem) x (AOp.pureB ⟨d, none, .v x⟩) d al S0 K t l env mem := by
  simp only [tqO, AOp.qval, tqV]
theorem tqVS {x : AI} {pu : Bool} {c : Prop} {v : AV} : tqV P (some (c, v)) x pu d al S0 K t l env mem = (c ∧ (bif pu then True else ∀ m, S0 m → ∃ c, x.val env m = some (c, v) ∧ c) ∧ aSchedT P al S0 K t l (putO d v env) mem) := rfl
theorem tLeaf : aT P al S0 K .leaf env mem = K env mem := rfl
theorem tFork : aT P al S0 K (.fork t u) env mem = (aT P al S0 K t env mem ∧ aT P al S0 K u env mem) := rfl
theorem tStep : aT P al S0 K (.step i t) env mem = tO P al[i]? al S0 K t env mem := rfl
theorem tOV {x : AI} : tO P (some ⟨d, none, .v x⟩) al S0 K t env mem = tV P (x.val env mem) d al S0 K t env mem := by
  simp only [tO, AOp.wp, AOp.act, tV]
  cases x.val env mem <;> rfl
theorem tOE {x : EI} : tO P (some ⟨d, none, .e x⟩) al S0 K t env mem = tE P (x.run env mem) d al S0 K t env := by
  simp only [tO, AOp.wp, AOp.act, tE]
  cases x.run env mem <;> rfl
theorem tOC {f : Opd} {args : List Opd} : tO P (some ⟨d, none, .call f args⟩) al S0 K t env mem = tC P (f.ev env) (args.map (Opd.ev env)) d al S0 K t env mem := by
  simp only [tO, AOp.wp, AOp.act, tC]
  cases f.ev env <;> rfl
theorem tCS {g : Nat} {caps args : List AV} : tC P (.fn g caps) args d al S0 K t env mem = CallW P g (args ++ caps) mem (tK P d al S0 K t env) := rfl
theorem tK_at {v : AV} : tK P d al S0 K t env v m = (S0 m ∧ aT P al S0 K t (putO d v env) m) := rfl
theorem tVS {c : Prop} {v : AV} : tV P (some (c, v)) d al S0 K t env mem = (c ∧ S0 mem ∧ aT P al S0 K t (putO d v env) mem) := rfl
theorem tES {c : Prop} {v : AV} : tE P (some (c, v, m)) d al S0 K t env = (c ∧ S0 m ∧ aT P al S0 K t (putO d v env) m) := rfl
end
def vqt := And.intro @tOC (And.intro @tCS (And.intro @tK_at (And.intro @tqNil (And.intro @tqCons (And.intro @tqOV (And.intro @tqVS (And.intro @tLeaf (And.intro @tFork (And.intro @tStep (And.intro @tOV (And.intro @tOE (And.intro @tVS (And.intro @tES (And.intro @AOp.pureB.eq_1 (And.intro @List.any_cons.{0} (And.intro @List.any_nil.{0} (And.intro @Bool.false_or (And.intro @Bool.or_false (And.intro @Bool.true_or @Bool.or_true)))))))))))))))))))
end Go.Ab
