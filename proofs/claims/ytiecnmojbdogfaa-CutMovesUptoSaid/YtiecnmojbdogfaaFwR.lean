/- Regions of open order in which a new variable is made at some time: 'x := T{.. calls ..}' where x is kept in memory. -/
import Derived.Test.YtiecnmojbdogfaaFwQ
set_option linter.unusedSimpArgs false
set_option linter.unusedVariables false
set_option linter.defProp false
namespace Go.Ab
open Go

section
variable {P : Program}

/-- A call whose work does not hang on the object s, nor touch it. -/
def CallX (P : Program) (s g : Nat) (args : List AV) (mem : Mem) (K : AV → Mem → Prop) : Prop :=
  ∃ R : Mem → AV → Mem → Prop, (∀ m, CallW P g args m (R m)) ∧ (∀ (o : AO) m r m', R (Mem.set s o m) r m' → ∃ m1, m' = Mem.set s o m1 ∧ R m r m1) ∧ ∀ r m, R mem r m → K r m ∧ (m s).ver = (mem s).ver

theorem CallX.fz {s f : Nat} {args args0 : List AV} {mem : Mem} {R : AV → Prop} {K : AV → Mem → Prop} (h : Pure P f args0 R) (ha : args.map wk = args0) (hz : args.all isFzD = true) (hk : ∀ r, R r → isFzD r = true ∧ K r mem) : CallX P s f args mem K :=
  ⟨fun m0 r m => R r ∧ m = m0, fun m => CallW.fz h ha hz fun r hr => ⟨(hk r hr).1, hr, rfl⟩, fun o m r m' ⟨h1, h2⟩ => ⟨m, h2, h1, rfl⟩, fun r m ⟨h1, h2⟩ => by subst h2; exact ⟨(hk r h1).2, rfl⟩⟩

theorem set_comm {i j : Nat} (h : i ≠ j) (a b : AO) (m : Mem) : Mem.set i a (Mem.set j b m) = Mem.set j b (Mem.set i a m) := by
  funext k
  rw [set_at, set_at, set_at, set_at]
  by_cases h1 : k = i
  · subst h1; rw [if_pos rfl, if_neg h, if_pos rfl]
  · rw [if_neg h1, if_neg h1]

theorem CallX.own0 {s f : Nat} {args args0 : List AV} {mem : Mem} {R0 : Prop} {R : Nat → Nat → Nat → (Nat → AV) → Prop} {K : AV → Mem → Prop} (site : Nat) (hne : s ≠ site) (h : CallW P f args0 mem0 fun r m => (r = .cap0 ∧ R0) ∨ ∃ id ver e sz n g, r = .sl id ver n ∧ m id = .row ver e sz n g ∧ R e sz n g) (ha : args.map wk = args0) (hz : args.all isFzD = true)
    (hk0 : R0 → K .cap0 mem) (hk : ∀ e sz n g, R e sz n g → K (.sl site ((mem site).ver + 1) n) (Mem.set site (.row ((mem site).ver + 1) e sz n g) mem)) : CallX P s f args mem K := by
  refine ⟨fun m0 r m => (r = .cap0 ∧ m = m0 ∧ R0) ∨ ∃ e sz n g, r = .sl site ((m0 site).ver + 1) n ∧ m = Mem.set site (.row ((m0 site).ver + 1) e sz n g) m0 ∧ R e sz n g, fun m => CallW.own0 site h ha hz (fun h0 => .inl ⟨rfl, rfl, h0⟩) (fun e sz n g hR => .inr ⟨e, sz, n, g, rfl, rfl, hR⟩), fun o m r m' hr => ?_, fun r m hr => ?_⟩
  · rcases hr with ⟨h1, h2, h3⟩ | ⟨e, sz, n, g, h1, h2, h3⟩
    · exact ⟨m, h2, .inl ⟨h1, rfl, h3⟩⟩
    · rw [set_ne (Ne.symm hne)] at h1 h2
      exact ⟨_, by rw [h2, set_comm (Ne.symm hne)], .inr ⟨e, sz, n, g, h1, rfl, h3⟩⟩
  · rcases hr with ⟨h1, h2, h3⟩ | ⟨e, sz, n, g, h1, h2, h3⟩
    · subst h1; subst h2; exact ⟨hk0 h3, rfl⟩
    · subst h1; subst h2; exact ⟨hk e sz n g h3, by rw [set_ne hne]⟩

/-! ### the schedule -/
def floatE (d s : Nat) (mem : Mem) (env : Env) : Env := putO (some d) (.ptr s ((mem s).ver + 1) 0) env
def floatM (s : Nat) (z : List AV) (mem : Mem) : Mem := Mem.set s (.var ((mem s).ver + 1) z) mem

/-- f: the new variable, at last; then b. -/
def aSchedF (P : Program) (al : List AOp) (f b d s : Nat) (z : List AV) (L : Nat → Bool) (m0 : Mem) (K : Env → Mem → Prop) : List Nat → Env → Mem → Prop
  | [], env, mem => match al[b]? with
    | some ob => ob.wp P (floatE d s mem env) (floatM s z mem) K
    | none => False
  | i :: l, env, mem => match al[i]? with
    | none => False
    | some o => bif o.isV then
        match o.qval env (restr L m0) with
        | some (c, v) => c ∧ aSchedF P al f b d s z L m0 K l (putO o.dst v env) mem
        | none => False
      else match o.guard, o.si with
        | none, .call fo args => match fo.ev env with
          | .fn g caps => CallX P s g (args.map (Opd.ev env) ++ caps) mem fun r m => Agree L m0 m ∧ aSchedF P al f b d s z L m0 K l (putO o.dst r env) m
          | _ => False
        | _, _ => False

def schedBF (al : List AOp) (deps : List (List Nat)) (f b d : Nat) : List Nat → List Bool → Bool
  | [], listed => (match readyA deps listed with | [j] => Nat.beq j f | _ => false) && (match readyA deps (listed.set f true) with | [j] => Nat.beq j b | _ => false) && (readyA deps ((listed.set f true).set b true)).isEmpty && Nat.blt b listed.length
  | i :: l, listed => (match al[i]? with
    | none => false
    | some o => !(Nat.beq i f) && !(Nat.beq i b) && !(o.looks d) && !(dstEq o.dst (some d)) && !(listed.getD b false) && !(listed.getD f false) && (bif o.isV then (readyA deps listed).any (Nat.beq i) && freeB al deps listed i o && (deps.getD b []).any (Nat.beq i)
      else (readyA deps listed).any (Nat.beq i) && (readyA deps listed).all (fun j => Nat.beq j i || Nat.beq j f) && (match readyA deps (listed.set f true) with | [j] => Nat.beq j i | _ => false))) && schedBF al deps f b d l (listed.set i true)

section
variable {al : List AOp} {deps : List (List Nat)} {f b d s : Nat} {z : List AV} {L : Nat → Bool} {m0 : Mem} {K : Env → Mem → Prop}

theorem put_comm {d1 d2 : Option Nat} (h : ∀ k, d1 = some k → d2 ≠ some k) (u v : AV) (env : Env) : putO d1 u (putO d2 v env) = putO d2 v (putO d1 u env) := by
  funext k
  rw [putO_at, putO_at, putO_at, putO_at]
  by_cases e1 : d1 = some k
  · rw [if_pos e1, if_neg (fun e => h k e1 e), if_pos e1]
  · rw [if_neg e1, if_neg e1]

theorem agree_float (hL : L s = false) {m : Mem} {o : AO} (h : Agree L m0 m) : Agree L m0 (Mem.set s o m) := fun i hi => by
  by_cases e : i = s
  · subst e; rw [hL] at hi; cases hi
  · rw [set_ne e]; exact h i hi

theorem getD_set_self {l : List Bool} {i : Nat} {c : Bool} (h : i < l.length) : (l.set i true).getD i c = true := by
  simp [List.getD_eq_getElem?_getD, h]

theorem tail_sched {listed : List Bool} {env : Env} {mem : Mem} (hB : schedBF al deps f b d [] listed = true) (h : aSchedF P al f b d s z L m0 K [] env mem) :
    aAny P al deps (fun ls m => ls.getD b false = true ∨ Agree L m0 m) K 1 (listed.set f true) (floatE d s mem env) (floatM s z mem) := by
  simp only [schedBF, Bool.and_eq_true] at hB
  obtain ⟨⟨⟨_, h2⟩, h3⟩, h4⟩ := hB
  have hr : readyA deps (listed.set f true) = [b] := by
    split at h2
    · rename_i j hj; rw [hj, Nat.eq_of_beq_eq_true h2]
    · cases h2
  have hlt : b < listed.length := by simpa [Nat.blt_eq] using h4
  simp only [aSchedF] at h
  cases hb : al[b]? with
  | none => rw [hb] at h; exact h.elim
  | some ob =>
    rw [hb] at h
    refine ⟨fun e => (by rw [hr] at e; cases e), fun j hj => ?_⟩
    rw [hr] at hj
    simp only [List.mem_singleton] at hj
    subst hj
    refine ⟨ob, hb, AOp.wp_mono h fun e m hK => ⟨.inl (getD_set_self (by simpa using hlt)), ?_, hK⟩⟩
    simpa using h3

theorem aAny_after (hf : al[f]? = some ⟨some d, none, .e (.alloc s z)⟩) (hL : L s = false) : ∀ (l : List Nat) (listed : List Bool) (env : Env) (mem : Mem), schedBF al deps f b d l listed = true → listed.length = deps.length → f < listed.length → listed.getD b false = false → f ≠ b → Agree L m0 mem → aSchedF P al f b d s z L m0 K l env mem →
    aAny P al deps (fun ls m => ls.getD b false = true ∨ Agree L m0 m) K (l.length + 1) (listed.set f true) (floatE d s mem env) (floatM s z mem)
  | [], listed, env, mem, hB, hlen, hfl, hbl, hfb, hA, h => tail_sched hB h
  | i :: l, listed, env, mem, hB, hlen, hfl, hbl, hfb, hA, h => by
    simp only [schedBF, Bool.and_eq_true] at hB
    obtain ⟨hB1, hB2⟩ := hB
    simp only [aSchedF] at h
    cases hi : al[i]? with
    | none => rw [hi] at h; exact h.elim
    | some o =>
      rw [hi] at h hB1
      simp only at h hB1
      simp only [Bool.and_eq_true, Bool.not_eq_true'] at hB1
      obtain ⟨⟨⟨⟨⟨⟨n1, n2⟩, n3⟩, n4⟩, n5⟩, n6⟩, hB1⟩ := hB1
      have hif := ne_of_beq_false n1
      have hib := ne_of_beq_false n2
      have hdst : ∀ k, o.dst = some k → (some d : Option Nat) ≠ some k := fun k hk e => by
        cases e
        rw [hk] at n4
        simp [dstEq] at n4
      have hlook : ∀ k, (some d : Option Nat) = some k → o.looks k = false := fun k hk => by cases hk; exact n3
      have hbl' : (listed.set i true).getD b false = false := by rw [getD_set_ne' hib]; exact hbl
      have hblf : (listed.set f true).getD b false = false := by rw [getD_set_ne' hfb]; exact hbl
      cases hv : o.isV with
      | true =>
        rw [hv] at h hB1
        simp only [cond_true, Bool.and_eq_true] at h hB1
        obtain ⟨⟨c1, c2⟩, c3⟩ := hB1
        split at h
        · rename_i c v hq
          obtain ⟨hc, hrest⟩ := h
          have hri : i ∈ readyA deps listed := by
            obtain ⟨j, hj, e⟩ := List.any_eq_true.1 c1
            rw [Nat.eq_of_beq_eq_true e]; exact hj
          have ih := aAny_after hf hL l (listed.set i true) (putO o.dst v env) mem hB2 (by simpa using hlen) (by simpa using hfl) hbl' hfb hA hrest
          refine aAny_first (v := v) hi (l.length + 1) _ _ _ (.inr ⟨.step (k := i) ?_ ?_ .base, hib⟩) hblf (by simpa using hlen) (readyA_mono hri hif) (fun m hm => ?_) (agree_float hL hA) (fun j oj hj hji hun hno => ?_) ?_
          · obtain ⟨j, hj, e⟩ := List.any_eq_true.1 c3
            rw [Nat.eq_of_beq_eq_true e]; exact hj
          · have h1 := (mem_readyA.1 hri).2.1
            have h2 : i < listed.length := by have := (mem_readyA.1 hri).1; omega
            rw [getD_set_ne' (Ne.symm hif)]
            simp [List.getD_eq_getElem?_getD, h2] at h1 ⊢
            exact h1
          · refine ⟨c, ?_, hc⟩
            unfold floatE
            rw [AOp.qval_put hlook]
            refine qval_restr (L := L) ?_
            rw [restr_agree hm]; exact hq
          · have hun' : listed.getD j true = false := by
              by_cases e : j = f
              · subst e
                rw [getD_set_self (by omega)] at hun
                cases hun
              · rw [getD_set_ne' (Ne.symm e)] at hun; exact hun
            have := List.all_eq_true.1 c2 j (List.mem_range.2 (List.getElem?_eq_some_iff.1 hj).1)
            simp only [Bool.or_eq_true] at this
            rcases this with ((h1 | h1) | h1) | h1
            · exact absurd (Nat.eq_of_beq_eq_true h1) hji
            · rw [hun'] at h1; cases h1
            · exfalso
              obtain ⟨k, hk, e⟩ := List.any_eq_true.1 h1
              rw [← Nat.eq_of_beq_eq_true e] at hk
              exact hno hk
            · rw [hj] at h1; exact h1
          · unfold floatE at ih ⊢
            rw [put_comm hdst, List.set_comm _ _ (Ne.symm hif)]
            exact ih
        · exact h.elim
      | false =>
        rw [hv] at h hB1
        simp only [cond_false, Bool.and_eq_true] at h hB1
        obtain ⟨⟨c0, c1⟩, c2⟩ := hB1
        have hr : readyA deps (listed.set f true) = [i] := by
          split at c2
          · rename_i j hj; rw [hj, Nat.eq_of_beq_eq_true c2]
          · cases c2
        split at h
        · rename_i fo args hg hsi
          split at h
          · rename_i g caps hfo
            obtain ⟨R, r1, r2, r3⟩ := h
            refine ⟨fun e => (by rw [hr] at e; cases e), fun j hj => ?_⟩
            rw [hr] at hj
            simp only [List.mem_singleton] at hj
            subst hj
            refine ⟨o, hi, ?_⟩
            have hev : ∀ x ∈ o.si.reads, x.ev (floatE d s mem env) = x.ev env := fun x hx => ev_put fun k hk => (looks_false (hlook k hk)).1 x hx
            rw [hsi] at hev
            have e1 : args.map (Opd.ev (floatE d s mem env)) = args.map (Opd.ev env) := List.map_congr_left fun x hx => hev x (by simp [SI.reads, hx])
            unfold AOp.wp AOp.act
            rw [hg, hsi]
            simp only
            rw [hev fo (by simp [SI.reads]), hfo]
            simp only
            rw [e1]
            refine (r1 _).mono fun r m' hR => ?_
            obtain ⟨m1, hm1, hR1⟩ := r2 _ _ _ _ hR
            obtain ⟨⟨hA1, hrest⟩, hver⟩ := r3 r m1 hR1
            have ih := aAny_after hf hL l (listed.set j true) (putO o.dst r env) m1 hB2 (by simpa using hlen) (by simpa using hfl) hbl' hfb hA1 hrest
            have em : m' = floatM s z m1 := by rw [hm1]; unfold floatM; rw [hver]
            have ee : putO o.dst r (floatE d s mem env) = floatE d s m1 (putO o.dst r env) := by
              unfold floatE
              rw [hver, put_comm hdst]
            rw [em]
            refine ⟨.inr (agree_float hL hA1), ?_⟩
            rw [ee, List.set_comm _ _ (Ne.symm hif)]
            exact ih
          · exact h.elim
        · exact h.elim

theorem aAny_before (hf : al[f]? = some ⟨some d, none, .e (.alloc s z)⟩) (hL : L s = false) : ∀ (l : List Nat) (listed : List Bool) (env : Env) (mem : Mem), schedBF al deps f b d l listed = true → listed.length = deps.length → f < listed.length → listed.getD b false = false → f ≠ b → Agree L m0 mem → aSchedF P al f b d s z L m0 K l env mem →
    aAny P al deps (fun ls m => ls.getD b false = true ∨ Agree L m0 m) K (l.length + 2) listed env mem
  | [], listed, env, mem, hB, hlen, hfl, hbl, hfb, hA, h => by
    have hB' := hB
    simp only [schedBF, Bool.and_eq_true] at hB
    obtain ⟨⟨⟨h1, _⟩, _⟩, _⟩ := hB
    have hr : readyA deps listed = [f] := by
      split at h1
      · rename_i j hj; rw [hj, Nat.eq_of_beq_eq_true h1]
      · cases h1
    refine ⟨fun e => (by rw [hr] at e; cases e), fun j hj => ?_⟩
    rw [hr] at hj
    simp only [List.mem_singleton] at hj
    subst hj
    exact ⟨_, hf, trivial, .inr (agree_float hL hA), tail_sched hB' h⟩
  | i :: l, listed, env, mem, hB, hlen, hfl, hbl, hfb, hA, h => by
    have hB' := hB
    have h' := h
    simp only [schedBF, Bool.and_eq_true] at hB
    obtain ⟨hB1, hB2⟩ := hB
    simp only [aSchedF] at h
    cases hi : al[i]? with
    | none => rw [hi] at h; exact h.elim
    | some o =>
      rw [hi] at h hB1
      simp only at h hB1
      simp only [Bool.and_eq_true, Bool.not_eq_true'] at hB1
      obtain ⟨⟨⟨⟨⟨⟨n1, n2⟩, n3⟩, n4⟩, n5⟩, n6⟩, hB1⟩ := hB1
      have hif := ne_of_beq_false n1
      have hib := ne_of_beq_false n2
      have hbl' : (listed.set i true).getD b false = false := by rw [getD_set_ne' hib]; exact hbl
      cases hv : o.isV with
      | true =>
        rw [hv] at h hB1
        simp only [cond_true, Bool.and_eq_true] at h hB1
        obtain ⟨⟨c1, c2⟩, c3⟩ := hB1
        split at h
        · rename_i c v hq
          obtain ⟨hc, hrest⟩ := h
          have hri : i ∈ readyA deps listed := by
            obtain ⟨j, hj, e⟩ := List.any_eq_true.1 c1
            rw [Nat.eq_of_beq_eq_true e]; exact hj
          refine aAny_first (v := v) hi (l.length + 2) _ _ _ (.inr ⟨.step (k := i) ?_ ?_ .base, hib⟩) hbl hlen hri (fun m hm => ?_) hA (fun j oj hj hji hun hno => ?_) (aAny_before hf hL l (listed.set i true) (putO o.dst v env) mem hB2 (by simpa using hlen) (by simpa using hfl) hbl' hfb hA hrest)
          · obtain ⟨j, hj, e⟩ := List.any_eq_true.1 c3
            rw [Nat.eq_of_beq_eq_true e]; exact hj
          · have h1 := (mem_readyA.1 hri).2.1
            have h2 : i < listed.length := by have := (mem_readyA.1 hri).1; omega
            simp [List.getD_eq_getElem?_getD, h2] at h1 ⊢
            exact h1
          · refine ⟨c, qval_restr (L := L) ?_, hc⟩
            rw [restr_agree hm]; exact hq
          · have := List.all_eq_true.1 c2 j (List.mem_range.2 (List.getElem?_eq_some_iff.1 hj).1)
            simp only [Bool.or_eq_true] at this
            rcases this with ((h1 | h1) | h1) | h1
            · exact absurd (Nat.eq_of_beq_eq_true h1) hji
            · rw [hun] at h1; cases h1
            · exfalso
              obtain ⟨k, hk, e⟩ := List.any_eq_true.1 h1
              rw [← Nat.eq_of_beq_eq_true e] at hk
              exact hno hk
            · rw [hj] at h1; exact h1
        · exact h.elim
      | false =>
        rw [hv] at h hB1
        simp only [cond_false, Bool.and_eq_true] at h hB1
        obtain ⟨⟨c0, c1⟩, c2⟩ := hB1
        split at h
        · rename_i fo args hg hsi
          split at h
          · rename_i g caps hfo
            obtain ⟨R, r1, r2, r3⟩ := h
            refine ⟨fun e => ?_, fun j hj => ?_⟩
            · exfalso
              obtain ⟨j, hj, _⟩ := List.any_eq_true.1 c0
              rw [e] at hj; cases hj
            · have := List.all_eq_true.1 c1 j hj
              simp only [Bool.or_eq_true] at this
              rcases this with h1 | h1
              · have := Nat.eq_of_beq_eq_true h1
                subst this
                refine ⟨o, hi, ?_⟩
                unfold AOp.wp AOp.act
                rw [hg, hsi]
                simp only
                rw [hfo]
                simp only
                refine (r1 mem).mono fun r m hR => ?_
                obtain ⟨⟨hA1, hrest⟩, _⟩ := r3 r m hR
                exact ⟨.inr hA1, aAny_before hf hL l (listed.set j true) (putO o.dst r env) m hB2 (by simpa using hlen) (by simpa using hfl) hbl' hfb hA1 hrest⟩
              · have := Nat.eq_of_beq_eq_true h1
                subst this
                exact ⟨_, hf, trivial, .inr (agree_float hL hA), aAny_after hf hL (i :: l) listed env mem hB' hlen hfl hbl hfb hA h'⟩
          · exact h.elim
        · exact h.elim

theorem vAnyF {Q : AX → Env → Mem → Prop} {env : Env} {mem : Mem} (l : List Nat) (f b d s : Nat) (z : List AV) (L : Nat → Bool) (hf : al[f]? = some ⟨some d, none, .e (.alloc s z)⟩) (hL : L s = false)
    (hB : schedBF al deps f b d l (List.replicate al.length false) = true) (hl : (Nat.beq al.length deps.length && Nat.beq (l.length + 2) al.length && Nat.blt f al.length && !Nat.beq f b) = true)
    (h : aSchedF P al f b d s z L mem (Q .normal) l env mem) : awp P (.any al deps) Q env mem := by
  simp only [Bool.and_eq_true, Bool.not_eq_true'] at hl
  obtain ⟨⟨⟨h1, h2⟩, h3⟩, h4⟩ := hl
  have h1 := Nat.eq_of_beq_eq_true h1
  have h2 := Nat.eq_of_beq_eq_true h2
  have h3 : f < al.length := by simpa [Nat.blt_eq] using h3
  have h4 := ne_of_beq_false h4
  have hrep : (List.replicate al.length false).getD b false = false := by
    simp [List.getD_eq_getElem?_getD, List.getElem?_replicate]
    split <;> rfl
  have := aAny_before (P := P) (K := Q .normal) hf hL l (List.replicate al.length false) env mem hB (by simpa using h1) (by simpa using h3) hrep h4 (fun i _ => rfl) h
  rw [h2] at this
  exact ⟨_, this⟩
end

/-! ### the rules -/
section
variable {al : List AOp} {f b d s i : Nat} {z : List AV} {L : Nat → Bool} {m0 m mem : Mem} {K : Env → Mem → Prop} {env : Env} {l : List Nat} {dd : Option Nat}
def sfO (P : Program) (oo : Option AOp) (al : List AOp) (f b d s : Nat) (z : List AV) (L : Nat → Bool) (m0 : Mem) (K : Env → Mem → Prop) (l : List Nat) (env : Env) (mem : Mem) : Prop :=
  match oo with
  | none => False
  | some o => bif o.isV then
        match o.qval env (restr L m0) with
        | some (c, v) => c ∧ aSchedF P al f b d s z L m0 K l (putO o.dst v env) mem
        | none => False
      else match o.guard, o.si with
        | none, .call fo args => match fo.ev env with
          | .fn g caps => CallX P s g (args.map (Opd.ev env) ++ caps) mem fun r m => Agree L m0 m ∧ aSchedF P al f b d s z L m0 K l (putO o.dst r env) m
          | _ => False
        | _, _ => False
def sfV (P : Program) (r : Option (Prop × AV)) (dd : Option Nat) (al : List AOp) (f b d s : Nat) (z : List AV) (L : Nat → Bool) (m0 : Mem) (K : Env → Mem → Prop) (l : List Nat) (env : Env) (mem : Mem) : Prop :=
  match r with
  | some (c, v) => c ∧ aSchedF P al f b d s z L m0 K l (putO dd v env) mem
  | none => False
def sfK (P : Program) (dd : Option Nat) (al : List AOp) (f b d s : Nat) (z : List AV) (L : Nat → Bool) (m0 : Mem) (K : Env → Mem → Prop) (l : List Nat) (env : Env) : AV → Mem → Prop := fun r m => Agree L m0 m ∧ aSchedF P al f b d s z L m0 K l (putO dd r env) m
def sfC (P : Program) (v : AV) (args : List AV) (dd : Option Nat) (al : List AOp) (f b d s : Nat) (z : List AV) (L : Nat → Bool) (m0 : Mem) (K : Env → Mem → Prop) (l : List Nat) (env : Env) (mem : Mem) : Prop :=
  match v with
  | .fn g caps => CallX P s g (args ++ caps) mem (sfK P dd al f b d s z L m0 K l env)
  | _ => False
def sfE (P : Program) (oo : Option AOp) (K : Env → Mem → Prop) (env : Env) (mem : Mem) : Prop := match oo with
  | some ob => awpL P K [ob] env mem
  | none => False
theorem sfCons : aSchedF P al f b d s z L m0 K (i :: l) env mem = sfO P al[i]? al f b d s z L m0 K l env mem := by simp only [aSchedF, sfO]
theorem sfOV {x : AI} : sfO P (some ⟨dd, none, .v x⟩) al f b d s z L m0 K l env mem = sfV P (x.val env (restr L m0)) dd al f b d s z L m0 K l env mem := by
  simp only [sfO, AOp.isV, cond_true, AOp.qval, sfV]
theorem sfVS {c : Prop} {v : AV} : sfV P (some (c, v)) dd al f b d s z L m0 K l env mem = (c ∧ aSchedF P al f b d s z L m0 K l (putO dd v env) mem) := rfl
theorem sfOC {fo : Opd} {args : List Opd} : sfO P (some ⟨dd, none, .call fo args⟩) al f b d s z L m0 K l env mem = sfC P (fo.ev env) (args.map (Opd.ev env)) dd al f b d s z L m0 K l env mem := by
  simp only [sfO, AOp.isV, cond_false, sfC]
  cases fo.ev env <;> rfl
theorem sfCS {g : Nat} {caps args : List AV} : sfC P (.fn g caps) args dd al f b d s z L m0 K l env mem = CallX P s g (args ++ caps) mem (sfK P dd al f b d s z L m0 K l env) := rfl
theorem sfK_at {v : AV} : sfK P dd al f b d s z L m0 K l env v m = (Agree L m0 m ∧ aSchedF P al f b d s z L m0 K l (putO dd v env) m) := rfl
theorem sfNil : aSchedF P al f b d s z L m0 K [] env mem = sfE P al[b]? K (Env.put d (.ptr s ((mem s).ver + 1) 0) env) (Mem.set s (.var ((mem s).ver + 1) z) mem) := by
  simp only [aSchedF, sfE, awpL]; rfl
theorem sfES {ob : AOp} : sfE P (some ob) K env mem = awpL P K [ob] env mem := rfl
def vqf := And.intro @sfCons (And.intro @sfOV (And.intro @sfVS (And.intro @sfOC (And.intro @sfCS (And.intro @sfK_at (And.intro @sfNil @sfES))))))
end
end
/- The rules of the walks, bundled. -/
def vqd0 := And.intro @AI.val.eq_1 (And.intro @AI.val.eq_2 (And.intro @AI.val.eq_3 (And.intro @AI.val.eq_4 (And.intro @AI.val.eq_5 (And.intro @AI.val.eq_6 (And.intro @AI.val.eq_7 (And.intro @AI.val.eq_8 (And.intro @AI.val.eq_9 (And.intro @AI.val.eq_10 (And.intro @AI.val.eq_11 (And.intro @AI.val.eq_12 (And.intro @AI.val.eq_13 (And.intro @AI.val.eq_14 (And.intro @AI.val.eq_15 (And.intro @AI.val.eq_16 (And.intro @AI.val.eq_17 (And.intro @AI.val.eq_18 (And.intro @AI.val.eq_19 @AI.val.eq_20))))))))))))))))))
def vqd1 := And.intro @AI.val.eq_21 (And.intro @AI.val.eq_22 (And.intro @AI.val.eq_23 (And.intro @AI.val.eq_24 (And.intro @AI.val.eq_25 (And.intro @AI.val.eq_26 (And.intro @AI.val.eq_27 (And.intro @AI.val.eq_28 (And.intro @AI.val.eq_29 (And.intro @EI.run.eq_1 (And.intro @EI.run.eq_2 (And.intro @EI.run.eq_3 (And.intro @EI.run.eq_4 (And.intro @EI.run.eq_5 (And.intro @EI.run.eq_6 (And.intro @EI.run.eq_7 (And.intro @EI.run.eq_8 (And.intro @EI.run.eq_9 (And.intro @EI.run.eq_10 @EI.run.eq_11))))))))))))))))))
def vqd2 := And.intro @EI.run.eq_12 (And.intro @EI.run.eq_13 (And.intro @binI.eq_1 (And.intro @binI.eq_2 (And.intro @binI.eq_3 (And.intro @binI.eq_4 (And.intro @binI.eq_5 (And.intro @binI.eq_6 (And.intro @binI.eq_7 (And.intro @binI.eq_8 (And.intro @binI.eq_9 (And.intro @binI.eq_10 (And.intro @binI.eq_11 (And.intro @binI.eq_12 (And.intro @binI.eq_13 (And.intro @binI.eq_14 (And.intro @binI.eq_15 (And.intro @binI.eq_16 (And.intro @binI.eq_17 @kEq.eq_1))))))))))))))))))
def vqd3 := And.intro @kEq.eq_2 (And.intro @kEq.eq_3 (And.intro @kEq.eq_4 (And.intro @kEq.eq_5 (And.intro @kEq.eq_6 (And.intro @kEq.eq_7 (And.intro @kEq.eq_8 (And.intro @kEq.eq_9 (And.intro @env0.eq_1 (And.intro @RetF.eq_1 (And.intro @RetF.eq_2 (And.intro @retL.eq_1 (And.intro @retL.eq_2 (And.intro @retV.eq_1 (And.intro @retV.eq_2 (And.intro @frzAL.eq_1 (And.intro @frzAL.eq_2 (And.intro @part?.eq_1 (And.intro @part?.eq_2 @part?.eq_3))))))))))))))))))
def vqd4 := And.intro @List.drop.eq_1.{0} (And.intro @List.drop.eq_2.{0} (And.intro @List.drop.eq_3.{0} (And.intro @List.take.eq_1.{0} (And.intro @List.take.eq_2.{0} (And.intro @List.take.eq_3.{0} (And.intro @List.all.eq_1.{0} (And.intro @List.all.eq_2.{0} (And.intro @List.length.eq_1.{0} (And.intro @List.length.eq_2.{0} (And.intro @List.map.eq_1.{0, 0} (And.intro @List.map.eq_2.{0, 0} (And.intro @List.append.eq_1.{0} (And.intro @List.append.eq_2.{0} (And.intro @List.replicate.eq_1.{0} (And.intro @List.replicate.eq_2.{0} (And.intro @List.set.eq_1.{0} (And.intro @List.set.eq_2.{0} (And.intro @List.set.eq_3.{0} @IntKind.bits.eq_1))))))))))))))))))
def vqd5 := And.intro @IntKind.bits.eq_2 (And.intro @IntKind.bits.eq_3 (And.intro @IntKind.bits.eq_4 (And.intro @IntKind.bits.eq_5 (And.intro @IntKind.bits.eq_6 (And.intro @IntKind.bits.eq_7 (And.intro @IntKind.bits.eq_8 (And.intro @litA.eq_1 (And.intro @litA.eq_2 (And.intro @appSrc.eq_1 (And.intro @appSrc.eq_2 (And.intro @appSrc.eq_3 (And.intro @appSrc.eq_4 (And.intro @frzV.eq_1 (And.intro @frzL.eq_1 (And.intro @frzL.eq_2 (And.intro @mkElt.eq_1 (And.intro @mkElt.eq_2 (And.intro @keyV.eq_1 @keyV.eq_2))))))))))))))))))
def vqd6 := And.intro @keyV.eq_3 (And.intro @keyV.eq_4 (And.intro @elN.eq_1 (And.intro @elN.eq_2 (And.intro @elN.eq_3 (And.intro @elN.eq_4 (And.intro @binS.eq_1 (And.intro @binS.eq_2 (And.intro @binS.eq_3 (And.intro @binS.eq_4 (And.intro @Ret.eq_1 (And.intro @Ret.eq_2 (And.intro @newElt.eq_1 (And.intro @fillA.eq_1 (And.intro @fillA.eq_2 (And.intro @bound.eq_1 (And.intro @bound.eq_2 (And.intro @aidxV.eq_1 (And.intro @aidxV.eq_2 @aidxV.eq_3))))))))))))))))))
def vqd7 := And.intro @aidxV.eq_4 (And.intro @aidxV.eq_5 (And.intro @slcO.eq_1 (And.intro @slcO.eq_2 (And.intro @List.nil_append.{0} (And.intro @List.cons_append.{0} (And.intro @List.append_nil.{0} (And.intro @List.getD_cons_zero.{0} (And.intro @List.getD_cons_succ.{0} (And.intro @List.getD_nil.{0} (And.intro @Option.map_some.{0, 0} (And.intro @Option.map_none.{0, 0} (And.intro @cond_true.{1} (And.intro @cond_false.{1} (And.intro @decide_true (And.intro @decide_false (And.intro @List.getElem?_cons_zero.{0} (And.intro @List.getElem?_cons_succ.{0} (And.intro @List.getElem?_nil.{0} @gt_iff_lt.{0}))))))))))))))))))
def vqd8 := And.intro @ge_iff_le.{0} (And.intro @AI.val.eq_30 (And.intro @EI.run.eq_14 (And.intro @EI.run.eq_15 @Int.cast_ofNat_Int)))
def vqde := And.intro @eqCells.eq_1 (And.intro @eqCells.eq_2 (And.intro @eqCells.eq_3 (And.intro @eqCells.eq_4 @eqCells.eq_5)))
def vqb := And.intro vq0 (And.intro vq1 (And.intro vq2 (And.intro vq3 (And.intro vq4 (And.intro vq5 (And.intro vq6 (And.intro vq7 (And.intro vq8 (And.intro vq9 (And.intro vqc (And.intro vqj (And.intro vqf (And.intro vqd0 (And.intro vqd1 (And.intro vqd2 (And.intro vqd3 (And.intro vqd4 (And.intro vqd5 (And.intro vqd6 (And.intro vqd7 vqd8))))))))))))))))))))
def vqa := And.intro vqb vqde
end Go.Ab
