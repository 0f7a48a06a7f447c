/- A new variable whose making may come at any time, and plain operations behind its filling. -/
import Derived.Test.YtodncnlnadgkhabFwT
set_option linter.unusedSimpArgs false
set_option linter.unusedVariables false
set_option linter.defProp false
namespace Go.Ab
open Go
section
variable {P : Program}
/-- f: the new variable, at last; then b. -/
def aSchedG (P : Program) (al : List AOp) (l2 : List Nat) (f b d s : Nat) (z : List AV) (L : Nat → Bool) (m0 : Mem) (K : Env → Mem → Prop) : List Nat → Env → Mem → Prop
  | [], env, mem => match al[b]? with
    | some ob => ob.wp P (floatE d s mem env) (floatM s z mem) (awpL P K (opsOf al l2))
    | none => False
  | i :: l, env, mem => match al[i]? with
    | none => False
    | some o => bif o.isV then
        match o.qval env (restr L m0) with
        | some (c, v) => c ∧ aSchedG P al l2 f b d s z L m0 K l (putO o.dst v env) mem
        | none => False
      else match o.guard, o.si with
        | none, .call fo args => match fo.ev env with
          | .fn g caps => CallX P s g (args.map (Opd.ev env) ++ caps) mem fun r m => Agree L m0 m ∧ aSchedG P al l2 f b d s z L m0 K l (putO o.dst r env) m
          | _ => False
        | _, _ => False

def schedBG (al : List AOp) (deps : List (List Nat)) (l2 : List Nat) (f b d : Nat) : List Nat → List Bool → Bool
  | [], listed => (match readyA deps listed with | [j] => Nat.beq j f | _ => false) && (match readyA deps (listed.set f true) with | [j] => Nat.beq j b | _ => false) && seqB deps l2 ((listed.set f true).set b true) && Nat.blt b listed.length
  | i :: l, listed => (match al[i]? with
    | none => false
    | some o => !(Nat.beq i f) && !(Nat.beq i b) && !(o.looks d) && !(dstEq o.dst (some d)) && !(listed.getD b false) && !(listed.getD f false) && (bif o.isV then (readyA deps listed).any (Nat.beq i) && freeB al deps listed i o && ((deps.getD b []).any (Nat.beq i) || o.pureB)
      else (readyA deps listed).any (Nat.beq i) && (readyA deps listed).all (fun j => Nat.beq j i || Nat.beq j f) && (match readyA deps (listed.set f true) with | [j] => Nat.beq j i | _ => false))) && schedBG al deps l2 f b d l (listed.set i true)

end
section
variable {P : Program} {al : List AOp} {deps : List (List Nat)} {l2 : List Nat} {f b d s : Nat} {z : List AV} {L : Nat → Bool} {m0 : Mem} {K : Env → Mem → Prop}
theorem tail_schedG (hal : al.length = deps.length) {listed : List Bool} {env : Env} {mem : Mem} (hB : schedBG al deps l2 f b d [] listed = true) (h : aSchedG P al l2 f b d s z L m0 K [] env mem) :
    aAny P al deps (fun ls m => ls.getD b false = true ∨ Agree L m0 m) K (l2.length + 1) (listed.set f true) (floatE d s mem env) (floatM s z mem) := by
  simp only [schedBG, Bool.and_eq_true] at hB
  obtain ⟨⟨⟨_, h2⟩, h3⟩, h4⟩ := hB
  have hr : readyA deps (listed.set f true) = [b] := by
    split at h2
    · rename_i j hj; rw [hj, Nat.eq_of_beq_eq_true h2]
    · cases h2
  have hlt : b < listed.length := by simpa [Nat.blt_eq] using h4
  simp only [aSchedG] at h
  cases hb : al[b]? with
  | none => rw [hb] at h; exact h.elim
  | some ob =>
    rw [hb] at h
    refine ⟨fun e => (by rw [hr] at e; cases e), fun j hj => ?_⟩
    rw [hr] at hj
    simp only [List.mem_singleton] at hj
    subst hj
    refine ⟨ob, hb, AOp.wp_mono h fun e m hK => ⟨.inl (getD_set_self (by simpa using hlt)), ?_⟩⟩
    exact aAny_seq hal (b := j) (fun ls m h => .inl h) l2 _ e m h3 (by simpa using hlt) (.inl (getD_set_self (by simpa using hlt))) hK

theorem aAny_afterG (hal : al.length = deps.length) (hf : al[f]? = some ⟨some d, none, .e (.alloc s z)⟩) (hL : L s = false) : ∀ (l : List Nat) (listed : List Bool) (env : Env) (mem : Mem), schedBG al deps l2 f b d l listed = true → listed.length = deps.length → f < listed.length → listed.getD b false = false → f ≠ b → Agree L m0 mem → aSchedG P al l2 f b d s z L m0 K l env mem →
    aAny P al deps (fun ls m => ls.getD b false = true ∨ Agree L m0 m) K (l.length + l2.length + 1) (listed.set f true) (floatE d s mem env) (floatM s z mem)
  | [], listed, env, mem, hB, hlen, hfl, hbl, hfb, hA, h => by
    have e : ([] : List Nat).length + l2.length + 1 = l2.length + 1 := by simp
    rw [e]
    exact tail_schedG hal hB h
  | i :: l, listed, env, mem, hB, hlen, hfl, hbl, hfb, hA, h => by
    have ec : (i :: l).length + l2.length + 1 = (l.length + l2.length + 1) + 1 := by simp; omega
    rw [ec]
    simp only [schedBG, Bool.and_eq_true] at hB
    obtain ⟨hB1, hB2⟩ := hB
    simp only [aSchedG] at h
    cases hi : al[i]? with
    | none => rw [hi] at h; exact h.elim
    | some o =>
      rw [hi] at h hB1
      simp only at h hB1
      simp only [Bool.and_eq_true, Bool.not_eq_true'] at hB1
      obtain ⟨⟨⟨⟨⟨⟨n1, n2⟩, n3⟩, n4⟩, n5⟩, n6⟩, hB1⟩ := hB1
      have hif := ne_of_beq_false n1
      have hib := ne_of_beq_false n2
      have hdst : ∀ k, o.dst = some k → (some d : Option Nat) ≠ some k := fun k hk e => by
        cases e
        rw [hk] at n4
        simp [dstEq] at n4
      have hlook : ∀ k, (some d : Option Nat) = some k → o.looks k = false := fun k hk => by cases hk; exact n3
      have hbl' : (listed.set i true).getD b false = false := by rw [getD_set_ne' hib]; exact hbl
      have hblf : (listed.set f true).getD b false = false := by rw [getD_set_ne' hfb]; exact hbl
      cases hv : o.isV with
      | true =>
        rw [hv] at h hB1
        simp only [cond_true, Bool.and_eq_true] at h hB1
        obtain ⟨⟨c1, c2⟩, c3⟩ := hB1
        split at h
        · rename_i c v hq
          obtain ⟨hc, hrest⟩ := h
          have hri : i ∈ readyA deps listed := by
            obtain ⟨j, hj, e⟩ := List.any_eq_true.1 c1
            rw [Nat.eq_of_beq_eq_true e]; exact hj
          have ih := aAny_afterG hal hf hL l (listed.set i true) (putO o.dst v env) mem hB2 (by simpa using hlen) (by simpa using hfl) hbl' hfb hA hrest
          have hfree : ∀ j oj, al[j]? = some oj → j ≠ i → (listed.set f true).getD j true = false → i ∉ deps.getD j [] → o.apart oj = true := fun j oj hj hji hun hno => by
            have hun' : listed.getD j true = false := by
              by_cases e : j = f
              · subst e
                rw [getD_set_self (by omega)] at hun
                cases hun
              · rw [getD_set_ne' (Ne.symm e)] at hun; exact hun
            have := List.all_eq_true.1 c2 j (List.mem_range.2 (List.getElem?_eq_some_iff.1 hj).1)
            simp only [Bool.or_eq_true] at this
            rcases this with ((h1 | h1) | h1) | h1
            · exact absurd (Nat.eq_of_beq_eq_true h1) hji
            · rw [hun'] at h1; cases h1
            · exfalso
              obtain ⟨k, hk, e⟩ := List.any_eq_true.1 h1
              rw [← Nat.eq_of_beq_eq_true e] at hk
              exact hno hk
            · rw [hj] at h1; exact h1
          have ih' : aAny P al deps (fun ls m => ls.getD b false = true ∨ Agree L m0 m) K (l.length + l2.length + 1) ((listed.set f true).set i true) (putO o.dst v (floatE d s mem env)) (floatM s z mem) := by
            unfold floatE at ih ⊢
            rw [put_comm hdst, List.set_comm _ _ (Ne.symm hif)]
            exact ih
          have hev : ∀ m, o.qval (floatE d s mem env) m = o.qval env m := fun m => by unfold floatE; rw [AOp.qval_put hlook]
          simp only [Bool.or_eq_true] at c3
          rcases c3 with c3 | c3
          · refine aAny_first (v := v) hi (l.length + l2.length + 1) _ _ _ (.inr ⟨.step (k := i) ?_ ?_ .base, hib⟩) hblf (by simpa using hlen) (readyA_mono hri hif) (fun m hm => ?_) (agree_float hL hA) hfree ih'
            · obtain ⟨j, hj, e⟩ := List.any_eq_true.1 c3
              rw [Nat.eq_of_beq_eq_true e]; exact hj
            · have h1 := (mem_readyA.1 hri).2.1
              have h2 : i < listed.length := by have := (mem_readyA.1 hri).1; omega
              rw [getD_set_ne' (Ne.symm hif)]
              simp [List.getD_eq_getElem?_getD, h2] at h1 ⊢
              exact h1
            · refine ⟨c, ?_, hc⟩
              rw [hev]
              refine qval_restr (L := L) ?_
              rw [restr_agree hm]; exact hq
          · exact aAny_firstM (v := v) hi hib (l.length + l2.length + 1) _ _ _ (by simpa using hlen) (readyA_mono hri hif) (fun m => ⟨c, by rw [hev, AOp.pure_qval c3 (m' := restr L m0)]; exact hq, hc⟩) (.inr (agree_float hL hA)) hfree ih'
        · exact h.elim
      | false =>
        rw [hv] at h hB1
        simp only [cond_false, Bool.and_eq_true] at h hB1
        obtain ⟨⟨c0, c1⟩, c2⟩ := hB1
        have hr : readyA deps (listed.set f true) = [i] := by
          split at c2
          · rename_i j hj; rw [hj, Nat.eq_of_beq_eq_true c2]
          · cases c2
        split at h
        · rename_i fo args hg hsi
          split at h
          · rename_i g caps hfo
            obtain ⟨R, r1, r2, r3⟩ := h
            refine ⟨fun e => (by rw [hr] at e; cases e), fun j hj => ?_⟩
            rw [hr] at hj
            simp only [List.mem_singleton] at hj
            subst hj
            refine ⟨o, hi, ?_⟩
            have hev : ∀ x ∈ o.si.reads, x.ev (floatE d s mem env) = x.ev env := fun x hx => ev_put fun k hk => (looks_false (hlook k hk)).1 x hx
            rw [hsi] at hev
            have e1 : args.map (Opd.ev (floatE d s mem env)) = args.map (Opd.ev env) := List.map_congr_left fun x hx => hev x (by simp [SI.reads, hx])
            unfold AOp.wp AOp.act
            rw [hg, hsi]
            simp only
            rw [hev fo (by simp [SI.reads]), hfo]
            simp only
            rw [e1]
            refine (r1 _).mono fun r m' hR => ?_
            obtain ⟨m1, hm1, hR1⟩ := r2 _ _ _ _ hR
            obtain ⟨⟨hA1, hrest⟩, hver⟩ := r3 r m1 hR1
            have ih := aAny_afterG hal hf hL l (listed.set j true) (putO o.dst r env) m1 hB2 (by simpa using hlen) (by simpa using hfl) hbl' hfb hA1 hrest
            have em : m' = floatM s z m1 := by rw [hm1]; unfold floatM; rw [hver]
            have ee : putO o.dst r (floatE d s mem env) = floatE d s m1 (putO o.dst r env) := by
              unfold floatE
              rw [hver, put_comm hdst]
            rw [em]
            refine ⟨.inr (agree_float hL hA1), ?_⟩
            rw [ee, List.set_comm _ _ (Ne.symm hif)]
            exact ih
          · exact h.elim
        · exact h.elim

theorem aAny_beforeG (hal : al.length = deps.length) (hf : al[f]? = some ⟨some d, none, .e (.alloc s z)⟩) (hL : L s = false) : ∀ (l : List Nat) (listed : List Bool) (env : Env) (mem : Mem), schedBG al deps l2 f b d l listed = true → listed.length = deps.length → f < listed.length → listed.getD b false = false → f ≠ b → Agree L m0 mem → aSchedG P al l2 f b d s z L m0 K l env mem →
    aAny P al deps (fun ls m => ls.getD b false = true ∨ Agree L m0 m) K (l.length + l2.length + 2) listed env mem
  | [], listed, env, mem, hB, hlen, hfl, hbl, hfb, hA, h => by
    have e0 : ([] : List Nat).length + l2.length + 2 = l2.length + 1 + 1 := by simp
    rw [e0]
    have hB' := hB
    simp only [schedBG, Bool.and_eq_true] at hB
    obtain ⟨⟨⟨h1, _⟩, _⟩, _⟩ := hB
    have hr : readyA deps listed = [f] := by
      split at h1
      · rename_i j hj; rw [hj, Nat.eq_of_beq_eq_true h1]
      · cases h1
    refine ⟨fun e => (by rw [hr] at e; cases e), fun j hj => ?_⟩
    rw [hr] at hj
    simp only [List.mem_singleton] at hj
    subst hj
    exact ⟨_, hf, trivial, .inr (agree_float hL hA), tail_schedG hal hB' h⟩
  | i :: l, listed, env, mem, hB, hlen, hfl, hbl, hfb, hA, h => by
    have ec : (i :: l).length + l2.length + 2 = (l.length + l2.length + 2) + 1 := by simp; omega
    have ec1 : (l.length + l2.length + 2) = ((i :: l).length + l2.length + 1) := by simp; omega
    rw [ec]
    have hB' := hB
    have h' := h
    simp only [schedBG, Bool.and_eq_true] at hB
    obtain ⟨hB1, hB2⟩ := hB
    simp only [aSchedG] at h
    cases hi : al[i]? with
    | none => rw [hi] at h; exact h.elim
    | some o =>
      rw [hi] at h hB1
      simp only at h hB1
      simp only [Bool.and_eq_true, Bool.not_eq_true'] at hB1
      obtain ⟨⟨⟨⟨⟨⟨n1, n2⟩, n3⟩, n4⟩, n5⟩, n6⟩, hB1⟩ := hB1
      have hif := ne_of_beq_false n1
      have hib := ne_of_beq_false n2
      have hbl' : (listed.set i true).getD b false = false := by rw [getD_set_ne' hib]; exact hbl
      cases hv : o.isV with
      | true =>
        rw [hv] at h hB1
        simp only [cond_true, Bool.and_eq_true] at h hB1
        obtain ⟨⟨c1, c2⟩, c3⟩ := hB1
        split at h
        · rename_i c v hq
          obtain ⟨hc, hrest⟩ := h
          have hri : i ∈ readyA deps listed := by
            obtain ⟨j, hj, e⟩ := List.any_eq_true.1 c1
            rw [Nat.eq_of_beq_eq_true e]; exact hj
          have hfree : ∀ j oj, al[j]? = some oj → j ≠ i → listed.getD j true = false → i ∉ deps.getD j [] → o.apart oj = true := fun j oj hj hji hun hno => by
            have := List.all_eq_true.1 c2 j (List.mem_range.2 (List.getElem?_eq_some_iff.1 hj).1)
            simp only [Bool.or_eq_true] at this
            rcases this with ((h1 | h1) | h1) | h1
            · exact absurd (Nat.eq_of_beq_eq_true h1) hji
            · rw [hun] at h1; cases h1
            · exfalso
              obtain ⟨k, hk, e⟩ := List.any_eq_true.1 h1
              rw [← Nat.eq_of_beq_eq_true e] at hk
              exact hno hk
            · rw [hj] at h1; exact h1
          have ih := aAny_beforeG hal hf hL l (listed.set i true) (putO o.dst v env) mem hB2 (by simpa using hlen) (by simpa using hfl) hbl' hfb hA hrest
          simp only [Bool.or_eq_true] at c3
          rcases c3 with c3 | c3
          · refine aAny_first (v := v) hi (l.length + l2.length + 2) _ _ _ (.inr ⟨.step (k := i) ?_ ?_ .base, hib⟩) hbl hlen hri (fun m hm => ?_) hA hfree ih
            · obtain ⟨j, hj, e⟩ := List.any_eq_true.1 c3
              rw [Nat.eq_of_beq_eq_true e]; exact hj
            · have h1 := (mem_readyA.1 hri).2.1
              have h2 : i < listed.length := by have := (mem_readyA.1 hri).1; omega
              simp [List.getD_eq_getElem?_getD, h2] at h1 ⊢
              exact h1
            · refine ⟨c, ?_, hc⟩
              refine qval_restr (L := L) ?_
              rw [restr_agree hm]; exact hq
          · exact aAny_firstM (v := v) hi hib (l.length + l2.length + 2) _ _ _ hlen hri (fun m => ⟨c, by rw [AOp.pure_qval c3 (m' := restr L m0)]; exact hq, hc⟩) (.inr hA) hfree ih
        · exact h.elim
      | false =>
        rw [hv] at h hB1
        simp only [cond_false, Bool.and_eq_true] at h hB1
        obtain ⟨⟨c0, c1⟩, c2⟩ := hB1
        split at h
        · rename_i fo args hg hsi
          split at h
          · rename_i g caps hfo
            obtain ⟨R, r1, r2, r3⟩ := h
            refine ⟨fun e => ?_, fun j hj => ?_⟩
            · exfalso
              obtain ⟨j, hj, _⟩ := List.any_eq_true.1 c0
              rw [e] at hj; cases hj
            · have := List.all_eq_true.1 c1 j hj
              simp only [Bool.or_eq_true] at this
              rcases this with h1 | h1
              · have := Nat.eq_of_beq_eq_true h1
                subst this
                refine ⟨o, hi, ?_⟩
                unfold AOp.wp AOp.act
                rw [hg, hsi]
                simp only
                rw [hfo]
                simp only
                refine (r1 mem).mono fun r m hR => ?_
                obtain ⟨⟨hA1, hrest⟩, _⟩ := r3 r m hR
                exact ⟨.inr hA1, aAny_beforeG hal hf hL l (listed.set j true) (putO o.dst r env) m hB2 (by simpa using hlen) (by simpa using hfl) hbl' hfb hA1 hrest⟩
              · have := Nat.eq_of_beq_eq_true h1
                subst this
                exact ⟨_, hf, trivial, .inr (agree_float hL hA), ec1 ▸ aAny_afterG hal hf hL (i :: l) listed env mem hB' hlen hfl hbl hfb hA h'⟩
          · exact h.elim
        · exact h.elim

theorem vAnyG {Q : AX → Env → Mem → Prop} {env : Env} {mem : Mem} (l l2 : List Nat) (f b d s : Nat) (z : List AV) (L : Nat → Bool) (hf : al[f]? = some ⟨some d, none, .e (.alloc s z)⟩) (hL : L s = false)
    (hB : schedBG al deps l2 f b d l (List.replicate al.length false) = true) (hl : (Nat.beq al.length deps.length && Nat.beq (l.length + l2.length + 2) al.length && Nat.blt f al.length && !Nat.beq f b) = true)
    (h : aSchedG P al l2 f b d s z L mem (Q .normal) l env mem) : awp P (.any al deps) Q env mem := by
  simp only [Bool.and_eq_true, Bool.not_eq_true'] at hl
  obtain ⟨⟨⟨h1, h2⟩, h3⟩, h4⟩ := hl
  have h1 := Nat.eq_of_beq_eq_true h1
  have h2 := Nat.eq_of_beq_eq_true h2
  have h3 : f < al.length := by simpa [Nat.blt_eq] using h3
  have h4 := ne_of_beq_false h4
  have hrep : (List.replicate al.length false).getD b false = false := by
    simp [List.getD_eq_getElem?_getD, List.getElem?_replicate]
    split <;> rfl
  have := aAny_beforeG (P := P) (K := Q .normal) h1 hf hL l (List.replicate al.length false) env mem hB (by simpa using h1) (by simpa using h3) hrep h4 (fun i _ => rfl) h
  rw [h2] at this
  exact ⟨_, this⟩
end

/-! ### the rules -/
section
variable {P : Program} {l2 : List Nat} {al : List AOp} {f b d s i : Nat} {z : List AV} {L : Nat → Bool} {m0 m mem : Mem} {K : Env → Mem → Prop} {env : Env} {l : List Nat} {dd : Option Nat}
def sgO (P : Program) (oo : Option AOp) (al : List AOp) (l2 : List Nat) (f b d s : Nat) (z : List AV) (L : Nat → Bool) (m0 : Mem) (K : Env → Mem → Prop) (l : List Nat) (env : Env) (mem : Mem) : Prop :=
  match oo with
  | none => False
  | some o => bif o.isV then
        match o.qval env (restr L m0) with
        | some (c, v) => c ∧ aSchedG P al l2 f b d s z L m0 K l (putO o.dst v env) mem
        | none => False
      else match o.guard, o.si with
        | none, .call fo args => match fo.ev env with
          | .fn g caps => CallX P s g (args.map (Opd.ev env) ++ caps) mem fun r m => Agree L m0 m ∧ aSchedG P al l2 f b d s z L m0 K l (putO o.dst r env) m
          | _ => False
        | _, _ => False
def sgV (P : Program) (r : Option (Prop × AV)) (dd : Option Nat) (al : List AOp) (l2 : List Nat) (f b d s : Nat) (z : List AV) (L : Nat → Bool) (m0 : Mem) (K : Env → Mem → Prop) (l : List Nat) (env : Env) (mem : Mem) : Prop :=
  match r with
  | some (c, v) => c ∧ aSchedG P al l2 f b d s z L m0 K l (putO dd v env) mem
  | none => False
def sgK (P : Program) (dd : Option Nat) (al : List AOp) (l2 : List Nat) (f b d s : Nat) (z : List AV) (L : Nat → Bool) (m0 : Mem) (K : Env → Mem → Prop) (l : List Nat) (env : Env) : AV → Mem → Prop := fun r m => Agree L m0 m ∧ aSchedG P al l2 f b d s z L m0 K l (putO dd r env) m
def sgC (P : Program) (v : AV) (args : List AV) (dd : Option Nat) (al : List AOp) (l2 : List Nat) (f b d s : Nat) (z : List AV) (L : Nat → Bool) (m0 : Mem) (K : Env → Mem → Prop) (l : List Nat) (env : Env) (mem : Mem) : Prop :=
  match v with
  | .fn g caps => CallX P s g (args ++ caps) mem (sgK P dd al l2 f b d s z L m0 K l env)
  | _ => False
def sgE (P : Program) (al : List AOp) (l2 : List Nat) (oo : Option AOp) (K : Env → Mem → Prop) (env : Env) (mem : Mem) : Prop := match oo with
  | some ob => awpL P K (ob :: opsOf al l2) env mem
  | none => False
theorem sgCons : aSchedG P al l2 f b d s z L m0 K (i :: l) env mem = sgO P al[i]? al l2 f b d s z L m0 K l env mem := by simp only [aSchedG, sgO]
theorem sgOV {x : AI} : sgO P (some ⟨dd, none, .v x⟩) al l2 f b d s z L m0 K l env mem = sgV P (x.val env (restr L m0)) dd al l2 f b d s z L m0 K l env mem := by
  simp only [sgO, AOp.isV, cond_true, AOp.qval, sgV]
theorem sgVS {c : Prop} {v : AV} : sgV P (some (c, v)) dd al l2 f b d s z L m0 K l env mem = (c ∧ aSchedG P al l2 f b d s z L m0 K l (putO dd v env) mem) := rfl
theorem sgOC {fo : Opd} {args : List Opd} : sgO P (some ⟨dd, none, .call fo args⟩) al l2 f b d s z L m0 K l env mem = sgC P (fo.ev env) (args.map (Opd.ev env)) dd al l2 f b d s z L m0 K l env mem := by
  simp only [sgO, AOp.isV, cond_false, sgC]
  cases fo.ev env <;> rfl
theorem sgCS {g : Nat} {caps args : List AV} : sgC P (.fn g caps) args dd al l2 f b d s z L m0 K l env mem = CallX P s g (args ++ caps) mem (sgK P dd al l2 f b d s z L m0 K l env) := rfl
theorem sgK_at {v : AV} : sgK P dd al l2 f b d s z L m0 K l env v m = (Agree L m0 m ∧ aSchedG P al l2 f b d s z L m0 K l (putO dd v env) m) := rfl
theorem sgNil : aSchedG P al l2 f b d s z L m0 K [] env mem = sgE P al l2 al[b]? K (Env.put d (.ptr s ((mem s).ver + 1) 0) env) (Mem.set s (.var ((mem s).ver + 1) z) mem) := by
  simp only [aSchedG, sgE, awpL]; rfl
theorem sgES {ob : AOp} : sgE P al l2 (some ob) K env mem = awpL P K (ob :: opsOf al l2) env mem := rfl
def vqg := And.intro @sgCons (And.intro @sgOV (And.intro @sgVS (And.intro @sgOC (And.intro @sgCS (And.intro @sgK_at (And.intro @sgNil @sgES))))))
end
end Go.Ab
