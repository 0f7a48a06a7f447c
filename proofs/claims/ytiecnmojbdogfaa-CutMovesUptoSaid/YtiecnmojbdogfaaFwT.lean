/- Regions of open order: quiet operations first, then all orders that are left, one by one. -/
import Derived.Test.YtiecnmojbdogfaaSaBase
set_option linter.unusedSimpArgs false
set_option linter.unusedVariables false
set_option linter.defProp false
namespace Go.Ab
open Go
/-- An operation that reads no memory. -/
def AOp.pureB (o : AOp) : Bool := match o.guard, o.si with
  | none, .v i => match i with
    | .mv _ => true
    | .pick _ _ _ => true
    | .bin _ _ _ => true
    | .sbin _ _ _ => true
    | .beq _ _ _ => true
    | .not _ => true
    | .neg _ => true
    | .bnot _ => true
    | .conv _ _ => true
    | .slen _ => true
    | .sidx _ _ => true
    | .fieldv _ _ _ _ => true
    | .ext _ _ => true
    | .build _ _ => true
    | .mkfn _ _ => true
    | .sslc _ _ _ => true
    | .aeq _ _ _ _ => true
    | .cp _ => true
    | .mx _ _ => true
    | .mn _ _ => true
    | _ => false
  | _, _ => false
theorem AOp.pure_qval {o : AOp} (h : o.pureB = true) {env : Env} {m m' : Mem} : o.qval env m = o.qval env m' := by
  obtain ⟨d, g, si⟩ := o
  cases g with
  | some g => simp [AOp.pureB] at h
  | none =>
    cases si with
    | v i => cases i <;> first | rfl | (simp [AOp.pureB] at h; done)
    | _ => simp [AOp.pureB] at h
/-- As aAny_first, for an operation that reads no memory. -/
theorem aAny_firstM {P : Program} {al : List AOp} {deps : List (List Nat)} {S0 : Mem → Prop} {K : Env → Mem → Prop} {b i : Nat} {o : AOp} {v : AV} (hi : al[i]? = some o) (hib : i ≠ b) :
    ∀ (fuel : Nat) (listed : List Bool) (env : Env) (mem : Mem), listed.length = deps.length → i ∈ readyA deps listed → (∀ m, ∃ c, o.qval env m = some (c, v) ∧ c) → (listed.getD b false = true ∨ S0 mem) →
      (∀ j oj, al[j]? = some oj → j ≠ i → listed.getD j true = false → i ∉ deps.getD j [] → o.apart oj = true) →
      aAny P al deps (fun ls m => ls.getD b false = true ∨ S0 m) K fuel (listed.set i true) (putO o.dst v env) mem → aAny P al deps (fun ls m => ls.getD b false = true ∨ S0 m) K (fuel + 1) listed env mem := by
  intro fuel
  induction fuel with
  | zero =>
    intro listed env mem hlen hr hy hS hfree H
    refine ⟨fun h => (by rw [h] at hr; cases hr), fun j hj => ?_⟩
    by_cases hji : j = i
    · subst hji
      obtain ⟨c, hq, hc⟩ := hy mem
      exact ⟨o, hi, AOp.wp_of_qval hq hc ⟨by show (listed.set j true).getD b false = true ∨ S0 mem; rw [getD_set_ne' hib]; exact hS, H⟩⟩
    · have := readyA_mono hj hji
      rw [H.1] at this
      cases this
  | succ fuel ih =>
    intro listed env mem hlen hr hy hS hfree H
    refine ⟨fun h => (by rw [h] at hr; cases hr), fun j hj => ?_⟩
    by_cases hji : j = i
    · subst hji
      obtain ⟨c, hq, hc⟩ := hy mem
      exact ⟨o, hi, AOp.wp_of_qval hq hc ⟨by show (listed.set j true).getD b false = true ∨ S0 mem; rw [getD_set_ne' hib]; exact hS, H⟩⟩
    · obtain ⟨oj, hoj, hwp⟩ := H.2 j (readyA_mono hj hji)
      obtain ⟨hjlt, hjun, hjall⟩ := mem_readyA.1 hj
      obtain ⟨hilt, hiun, hiall⟩ := mem_readyA.1 hr
      have hiun' : listed.getD i false = false := by
        have : i < listed.length := by omega
        simp [List.getD_eq_getElem?_getD, this] at hiun ⊢; exact hiun
      have hnot : i ∉ deps.getD j [] := fun h => by have := hjall i h; rw [hiun'] at this; cases this
      have hap := hfree j oj hoj hji hjun hnot
      simp only [AOp.apart, Bool.and_eq_true, Bool.not_eq_true'] at hap
      obtain ⟨⟨h1, h2⟩, h3⟩ := hap
      have hlj : ∀ k, o.dst = some k → oj.looks k = false := fun k hk => by rw [hk] at h1; simpa using h1
      have hli : ∀ k, oj.dst = some k → o.looks k = false := fun k hk => by rw [hk] at h2; simpa using h2
      have hdd : ∀ k, o.dst = some k → oj.dst ≠ some k := fun k hk hk2 => by rw [hk, hk2] at h3; simp [dstEq] at h3
      refine ⟨oj, hoj, ?_⟩
      -- what is put by 'oj' does not touch what 'o' reads
      have key : oj.wp P env mem (fun e m => (∃ u, e = putO oj.dst u env) ∧ (((listed.set i true).set j true).getD b false = true ∨ S0 m) ∧ aAny P al deps (fun ls m => ls.getD b false = true ∨ S0 m) K fuel ((listed.set i true).set j true) (putO o.dst v e) m) := by
        have hw := AOp.wp_put (v := v) hlj hdd hwp
        have hput : ∀ {K' : Env → Mem → Prop}, oj.wp P env mem K' → oj.wp P env mem (fun e m => (∃ u, e = putO oj.dst u env) ∧ K' e m) := fun {K'} h => by
          have hact : oj.act P env mem K' → oj.act P env mem (fun e m => (∃ u, e = putO oj.dst u env) ∧ K' e m) := fun h => by
            unfold AOp.act at *
            split at h
            · split at h
              · exact ⟨h.1, ⟨_, rfl⟩, h.2⟩
              · exact h
            · split at h
              · exact ⟨h.1, ⟨_, rfl⟩, h.2⟩
              · exact h
            · split at h
              · exact h.mono fun r m hk => ⟨⟨_, rfl⟩, hk⟩
              · exact h
            · split at h
              · exact fun b hb => ⟨⟨_, rfl⟩, h b hb⟩
              · exact ⟨⟨_, rfl⟩, h⟩
              · split at h
                · exact ⟨h.1, fun b hb => ⟨⟨_, rfl⟩, h.2 b hb⟩⟩
                · exact h
              · exact h
            · split at h
              · split at h
                · exact ⟨h.1, fun q => ⟨⟨_, rfl⟩, h.2.1 q⟩, fun key q => ⟨⟨_, rfl⟩, h.2.2 key q⟩⟩
                · exact h
              · exact h
            · exact h
          unfold AOp.wp at *
          split at h
          · exact hact h
          · split at h
            · split at h
              · exact hact h
              · exact hact h
              · exact ⟨⟨_, rfl⟩, h⟩
            · exact ⟨⟨_, rfl⟩, h⟩
            · exact h
        exact hput hw
      refine AOp.wp_mono key fun e m ⟨⟨u, hu⟩, hSS, hrest⟩ => ?_
      have hS' : (listed.set j true).getD b false = true ∨ S0 m := by
        rw [List.set_comm _ _ (Ne.symm hji), getD_set_ne' hib] at hSS
        exact hSS
      refine ⟨hS', ih (listed.set j true) e m (by simpa using hlen) (readyA_mono hr (Ne.symm hji)) (fun m' => ?_) hS' (fun k ok hk hki hkun hno => ?_) ?_⟩
      · rw [hu, AOp.qval_put hli]; exact hy m'
      · refine hfree k ok hk hki ?_ hno
        by_cases hjk : j = k
        · subst hjk; exact hjun
        · rw [getD_set_ne' hjk] at hkun; exact hkun
      · rw [List.set_comm _ _ hji]
        exact hrest

/-- From here on one operation at a time is ready: those of l. -/
def seqB (deps : List (List Nat)) : List Nat → List Bool → Bool
  | [], listed => (readyA deps listed).isEmpty
  | i :: l, listed => (match readyA deps listed with | [j] => Nat.beq i j | _ => false) && seqB deps l (listed.set i true)
def schedS (al : List AOp) (deps : List (List Nat)) (b : Nat) (l2 : List Nat) : List Nat → List Bool → Bool
  | [], listed => (match l2 with | i :: _ => Nat.beq i b | [] => false) && Nat.blt b listed.length && seqB deps l2 listed
  | i :: l, listed => (match al[i]? with
    | none => false
    | some o => bif o.isV then ((readyA deps listed).any (Nat.beq i) && freeB al deps listed i o && ((lateB deps listed i deps.length b && !(listed.getD b false)) || o.pureB) && !(Nat.beq i b))
      else (match readyA deps listed with | [j] => Nat.beq i j | _ => false) && !(Nat.beq i b)) && schedS al deps b l2 l (listed.set i true)
def opsOf (al : List AOp) : List Nat → List AOp
  | [] => []
  | i :: l => (al.getD i ⟨none, none, .bad⟩) :: opsOf al l

theorem aAny_seq {P : Program} {al : List AOp} {deps : List (List Nat)} {S : List Bool → Mem → Prop} {K : Env → Mem → Prop} (hal : al.length = deps.length) {b : Nat} (hS : ∀ ls m, ls.getD b false = true → S ls m) :
    ∀ (l : List Nat) (listed : List Bool) (env : Env) (mem : Mem), seqB deps l listed = true → b < listed.length → (listed.getD b false = true ∨ l.head? = some b) → awpL P K (opsOf al l) env mem →
      aAny P al deps S K l.length listed env mem
  | [], listed, env, mem, hB, _, _, h => by
    simp only [seqB, List.isEmpty_iff] at hB
    exact ⟨hB, h⟩
  | i :: l, listed, env, mem, hB, hlb, hd, h => by
    simp only [seqB, Bool.and_eq_true] at hB
    obtain ⟨hB1, hB2⟩ := hB
    have hr : readyA deps listed = [i] := by
      split at hB1
      · rename_i j hj
        rw [hj, Nat.eq_of_beq_eq_true hB1]
      · cases hB1
    have hi : i < al.length := by
      have : i ∈ readyA deps listed := by rw [hr]; simp
      have := (mem_readyA.1 this).1; omega
    refine ⟨fun e => (by rw [hr] at e; cases e), fun j hj => ?_⟩
    rw [hr] at hj
    simp only [List.mem_singleton] at hj
    subst hj
    have hg : al[j]? = some (al.getD j ⟨none, none, .bad⟩) := by rw [List.getD_eq_getElem?_getD, List.getElem?_eq_getElem hi]; rfl
    have hset : (listed.set j true).getD b false = true := by
      rw [List.getD_eq_getElem?_getD, List.getElem?_set]
      by_cases e : j = b
      · subst e; simp [hlb]
      · rw [if_neg e]
        rcases hd with hd | hd
        · rw [List.getD_eq_getElem?_getD] at hd; exact hd
        · simp at hd; exact absurd hd e
    refine ⟨_, hg, AOp.wp_mono h fun e m hrest => ⟨hS _ m hset, ?_⟩⟩
    exact aAny_seq hal hS l _ e m hB2 (by simpa using hlb) (.inl hset) hrest

theorem aAny_schedS {P : Program} {al : List AOp} {deps : List (List Nat)} {b : Nat} {L : Nat → Bool} {m0 : Mem} {K : Env → Mem → Prop} (l2 : List Nat) (hal : al.length = deps.length) :
    ∀ (l : List Nat) (listed : List Bool) (env : Env) (mem : Mem), schedS al deps b l2 l listed = true → listed.length = deps.length → Agree L m0 mem → aSched P al b L m0 (awpL P K (opsOf al l2)) l env mem →
      aAny P al deps (fun ls m => ls.getD b false = true ∨ Agree L m0 m) K (l.length + l2.length) listed env mem
  | [], listed, env, mem, hB, hlen, hA, h => by
    simp only [schedS, Bool.and_eq_true] at hB
    obtain ⟨⟨hB0, hb⟩, hB⟩ := hB
    have hb : b < listed.length := by simpa [Nat.blt_eq] using hb
    have e : ([] : List Nat).length + l2.length = l2.length := by simp
    rw [e]
    refine aAny_seq hal (b := b) (fun ls m h => .inl h) l2 listed env mem hB hb (.inr ?_) h
    cases l2 with
    | nil => cases hB0
    | cons i r => simp [Nat.eq_of_beq_eq_true hB0]
  | i :: l, listed, env, mem, hB, hlen, hA, h => by
    simp only [schedS, Bool.and_eq_true] at hB
    obtain ⟨hB1, hB2⟩ := hB
    simp only [aSched] at h
    have e : (i :: l).length + l2.length = (l.length + l2.length) + 1 := by simp; omega
    rw [e]
    cases hi : al[i]? with
    | none => rw [hi] at h; exact h.elim
    | some o =>
      rw [hi] at h hB1
      simp only at h hB1
      cases hv : o.isV with
      | true =>
        rw [hv] at h hB1
        simp only [cond_true, Bool.and_eq_true, Bool.or_eq_true, Bool.not_eq_true'] at h hB1
        obtain ⟨⟨⟨c1, c2⟩, c3⟩, c4⟩ := hB1
        split at h
        · rename_i c v hq
          obtain ⟨hc, hrest⟩ := h
          have hri : i ∈ readyA deps listed := by
            obtain ⟨j, hj, e⟩ := List.any_eq_true.1 c1
            have := Nat.eq_of_beq_eq_true e
            rw [this]; exact hj
          have hfree : ∀ j oj, al[j]? = some oj → j ≠ i → listed.getD j true = false → i ∉ deps.getD j [] → o.apart oj = true := fun j oj hj hji hun hno => by
            have := List.all_eq_true.1 c2 j (List.mem_range.2 (List.getElem?_eq_some_iff.1 hj).1)
            simp only [Bool.or_eq_true] at this
            rcases this with ((h1 | h1) | h1) | h1
            · exact absurd (Nat.eq_of_beq_eq_true h1) hji
            · rw [hun] at h1; cases h1
            · exfalso
              obtain ⟨k, hk, e⟩ := List.any_eq_true.1 h1
              have := Nat.eq_of_beq_eq_true e
              rw [← this] at hk
              exact hno hk
            · rw [hj] at h1; exact h1
          rcases c3 with ⟨c3, c4'⟩ | c3
          · refine aAny_first hi (l.length + l2.length) listed env mem ?_ c4' hlen hri (fun m hm => ?_) hA hfree (aAny_schedS l2 hal l _ _ _ hB2 (by simpa using hlen) hA hrest)
            · exact .inr ⟨late_of c3, ne_of_beq_false c4⟩
            · refine ⟨c, qval_restr (L := L) ?_, hc⟩
              rw [restr_agree hm]; exact hq
          · exact aAny_firstM hi (ne_of_beq_false c4) (l.length + l2.length) listed env mem hlen hri (fun m => ⟨c, by rw [AOp.pure_qval c3 (m' := restr L m0)]; exact hq, hc⟩) (.inr hA) hfree (aAny_schedS l2 hal l _ _ _ hB2 (by simpa using hlen) hA hrest)
        · exact h.elim
      | false =>
        rw [hv] at h hB1
        simp only [cond_false, Bool.and_eq_true, Bool.not_eq_true'] at h hB1
        obtain ⟨hB1, hB0⟩ := hB1
        have hr : readyA deps listed = [i] := by
          split at hB1
          · rename_i j hj
            rw [hj, Nat.eq_of_beq_eq_true hB1]
          · cases hB1
        refine ⟨fun e => (by rw [hr] at e; cases e), fun j hj => ?_⟩
        rw [hr] at hj
        simp only [List.mem_singleton] at hj
        subst hj
        refine ⟨o, hi, AOp.wp_mono h fun e m ⟨hA, hrest⟩ => ?_⟩
        rw [hB0] at hA
        exact ⟨.inr hA, aAny_schedS l2 hal l _ _ _ hB2 (by simpa using hlen) hA hrest⟩

/-- **A region whose last operations, from b on, come one after the other.** -/
theorem vAnyS {P : Program} {Q : AX → Env → Mem → Prop} {env : Env} {mem : Mem} {al : List AOp} {deps : List (List Nat)} (l l2 : List Nat) (b : Nat) (L : Nat → Bool) (hB : schedS al deps b l2 l (List.replicate al.length false) = true) (hl : (Nat.beq al.length deps.length && Nat.beq (l.length + l2.length) al.length) = true)
    (h : aSched P al b L mem (awpL P (Q .normal) (opsOf al l2)) l env mem) : awp P (.any al deps) Q env mem := by
  simp only [Bool.and_eq_true] at hl
  have h1 := Nat.eq_of_beq_eq_true hl.1
  have h2 := Nat.eq_of_beq_eq_true hl.2
  have := aAny_schedS (P := P) (al := al) (deps := deps) (b := b) (L := L) (m0 := mem) (K := Q .normal) l2 h1 l (List.replicate al.length false) env mem hB (by simp [h1]) (fun i _ => rfl) h
  rw [h2] at this
  exact ⟨_, this⟩
def twoL (i j : Nat) : Nat → Bool := fun k => decide (k = i) || decide (k = j)
theorem restr_two1 {i j : Nat} {m : Mem} : restr (twoL i j) m i = m i := by simp [restr, twoL]
theorem restr_two2 {i j : Nat} {m : Mem} : restr (twoL i j) m j = m j := by simp [restr, twoL]
theorem agree_two {i j : Nat} {m0 m : Mem} : Agree (twoL i j) m0 m = (m i = m0 i ∧ m j = m0 j) := propext ⟨fun h => ⟨h i (by simp [twoL]), h j (by simp [twoL])⟩, fun h k hk => by
  simp only [twoL, Bool.or_eq_true, decide_eq_true_eq] at hk
  rcases hk with rfl | rfl
  · exact h.1
  · exact h.2⟩
def threeL (i j k : Nat) : Nat → Bool := fun q => decide (q = i) || decide (q = j) || decide (q = k)
theorem restr_three1 {i j k : Nat} {m : Mem} : restr (threeL i j k) m i = m i := by simp [restr, threeL]
theorem restr_three2 {i j k : Nat} {m : Mem} : restr (threeL i j k) m j = m j := by simp [restr, threeL]
theorem restr_three3 {i j k : Nat} {m : Mem} : restr (threeL i j k) m k = m k := by simp [restr, threeL]
theorem agree_three {i j k : Nat} {m0 m : Mem} : Agree (threeL i j k) m0 m = (m i = m0 i ∧ m j = m0 j ∧ m k = m0 k) := propext ⟨fun h => ⟨h i (by simp [threeL]), h j (by simp [threeL]), h k (by simp [threeL])⟩, fun h q hq => by
  simp only [threeL, Bool.or_eq_true, decide_eq_true_eq] at hq
  rcases hq with (rfl | rfl) | rfl
  · exact h.1
  · exact h.2.1
  · exact h.2.2⟩
theorem opsN {al : List AOp} : opsOf al [] = [] := rfl
theorem opsC {al : List AOp} {i : Nat} {l : List Nat} : opsOf al (i :: l) = (al.getD i ⟨none, none, .bad⟩) :: opsOf al l := rfl
end Go.Ab
namespace Go.Ab
open Go
/-- The orders that are left. -/
inductive OT where
  | leaf
  | step (i : Nat) (t : OT)
  | fork (a b : OT)
def OT.isLeaf : OT → Bool
  | .leaf => true
  | _ => false
def OT.dep : OT → Nat
  | .leaf => 0
  | .step _ t => t.dep + 1
  | .fork a b => max a.dep b.dep
def OT.cov (deps : List (List Nat)) : OT → Nat → List Bool → Bool
  | .leaf, _, _ => false
  | .step j t, k, ls => Nat.beq k j && (bif t.isLeaf then (readyA deps (ls.set k true)).isEmpty else !(readyA deps (ls.set k true)).isEmpty && (readyA deps (ls.set k true)).all fun i => t.cov deps i (ls.set k true))
  | .fork a b, k, ls => a.cov deps k ls || b.cov deps k ls
def OT.top (deps : List (List Nat)) (t : OT) (ls : List Bool) : Bool := bif t.isLeaf then (readyA deps ls).isEmpty else !(readyA deps ls).isEmpty && (readyA deps ls).all fun i => t.cov deps i ls
def aT (P : Program) (al : List AOp) (S0 : Mem → Prop) (K : Env → Mem → Prop) : OT → Env → Mem → Prop
  | .leaf, e, m => K e m
  | .step i t, e, m => match al[i]? with
    | none => False
    | some o => o.wp P e m fun e m => S0 m ∧ aT P al S0 K t e m
  | .fork a b, e, m => aT P al S0 K a e m ∧ aT P al S0 K b e m
theorem aT_cov {P : Program} {al : List AOp} {deps : List (List Nat)} {S0 : Mem → Prop} {K : Env → Mem → Prop} {k : Nat} {ls : List Bool} {e : Env} {m : Mem} :
    ∀ t : OT, t.cov deps k ls = true → aT P al S0 K t e m → ∃ o t', al[k]? = some o ∧ o.wp P e m (fun e m => S0 m ∧ aT P al S0 K t' e m) ∧ t'.top deps (ls.set k true) = true ∧ t'.dep + 1 ≤ t.dep
  | .leaf, h, _ => Bool.noConfusion h
  | .step j t, h, ha => by
    simp only [OT.cov, Bool.and_eq_true] at h
    obtain ⟨h1, h2⟩ := h
    obtain rfl := Nat.eq_of_beq_eq_true h1
    simp only [aT] at ha
    cases ho : al[k]? with
    | none => rw [ho] at ha; exact ha.elim
    | some o => rw [ho] at ha; exact ⟨o, t, rfl, ha, h2, Nat.le_refl _⟩
  | .fork a b, h, ha => by
    simp only [OT.cov, Bool.or_eq_true] at h
    simp only [aT] at ha
    rcases h with h | h
    · obtain ⟨o, t', h1, h2, h3, h4⟩ := aT_cov a h ha.1
      exact ⟨o, t', h1, h2, h3, Nat.le_trans h4 (Nat.le_max_left _ _)⟩
    · obtain ⟨o, t', h1, h2, h3, h4⟩ := aT_cov b h ha.2
      exact ⟨o, t', h1, h2, h3, Nat.le_trans h4 (Nat.le_max_right _ _)⟩
theorem aT_any {P : Program} {al : List AOp} {deps : List (List Nat)} {b : Nat} {S0 : Mem → Prop} {K : Env → Mem → Prop} :
    ∀ (fuel : Nat) (t : OT) (ls : List Bool) (e : Env) (m : Mem), t.dep ≤ fuel → t.top deps ls = true → aT P al S0 K t e m → aAny P al deps (fun ls m => ls.getD b false = true ∨ S0 m) K fuel ls e m := by
  have leafy : ∀ {t : OT} {ls : List Bool} {e : Env} {m : Mem}, t.top deps ls = true → aT P al S0 K t e m → readyA deps ls = [] → K e m := fun {t ls e m} h ha hr => by
    cases t with
    | leaf => exact ha
    | step j t => simp [OT.top, OT.isLeaf, hr] at h
    | fork a b => simp [OT.top, OT.isLeaf, hr] at h
  have next : ∀ {t : OT} {ls : List Bool} {e : Env} {m : Mem}, t.top deps ls = true → aT P al S0 K t e m → ∀ i, i ∈ readyA deps ls → t.cov deps i ls = true := fun {t ls e m} h ha i hi => by
    cases t with
    | leaf =>
      simp only [OT.top, OT.isLeaf, cond_true, List.isEmpty_iff] at h
      rw [h] at hi; cases hi
    | step j t =>
      simp only [OT.top, OT.isLeaf, cond_false, Bool.and_eq_true] at h
      exact List.all_eq_true.1 h.2 i hi
    | fork a b =>
      simp only [OT.top, OT.isLeaf, cond_false, Bool.and_eq_true] at h
      exact List.all_eq_true.1 h.2 i hi
  intro fuel
  induction fuel with
  | zero =>
    intro t ls e m hd h ha
    have hr : readyA deps ls = [] := by
      cases hq : readyA deps ls with
      | nil => rfl
      | cons i r =>
        obtain ⟨o, t', _, _, _, h4⟩ := aT_cov t (next h ha i (by rw [hq]; exact .head _)) ha
        omega
    exact ⟨hr, leafy h ha hr⟩
  | succ fuel ih =>
    intro t ls e m hd h ha
    refine ⟨leafy h ha, fun i hi => ?_⟩
    obtain ⟨o, t', h1, h2, h3, h4⟩ := aT_cov t (next h ha i hi) ha
    exact ⟨o, h1, AOp.wp_mono h2 fun e m ⟨q1, q2⟩ => ⟨.inr q1, ih t' _ _ _ (by omega) h3 q2⟩⟩

def aSchedT (P : Program) (al : List AOp) (S0 : Mem → Prop) (K : Env → Mem → Prop) (t : OT) : List Nat → Env → Mem → Prop
  | [], env, mem => aT P al S0 K t env mem
  | i :: l, env, mem => match al[i]? with
    | none => False
    | some o => match o.qval env mem with
      | some (c, v) => c ∧ (bif o.pureB then True else ∀ m, S0 m → ∃ c, o.qval env m = some (c, v) ∧ c) ∧ aSchedT P al S0 K t l (putO o.dst v env) mem
      | none => False
def schedT (al : List AOp) (deps : List (List Nat)) (t : OT) : List Nat → List Bool → Bool
  | [], listed => t.top deps listed
  | i :: l, listed => (match al[i]? with
    | none => false
    | some o => o.isV && (readyA deps listed).any (Nat.beq i) && freeB al deps listed i o) && schedT al deps t l (listed.set i true)
theorem aAny_schedT {P : Program} {al : List AOp} {deps : List (List Nat)} {S0 : Mem → Prop} {K : Env → Mem → Prop} {t : OT} (n : Nat) (hn : t.dep ≤ n) :
    ∀ (l : List Nat) (listed : List Bool) (env : Env) (mem : Mem), schedT al deps t l listed = true → listed.length = deps.length → S0 mem → aSchedT P al S0 K t l env mem →
      aAny P al deps (fun ls m => ls.getD deps.length false = true ∨ S0 m) K (l.length + n) listed env mem
  | [], listed, env, mem, hB, hlen, hS, h => by
    rw [List.length_nil, Nat.zero_add]
    exact aT_any _ _ _ _ _ hn hB h
  | i :: l, listed, env, mem, hB, hlen, hS, h => by
    simp only [schedT, Bool.and_eq_true] at hB
    obtain ⟨hB1, hB2⟩ := hB
    simp only [aSchedT] at h
    cases hi : al[i]? with
    | none => rw [hi] at h; exact h.elim
    | some o =>
      rw [hi] at h hB1
      simp only [Bool.and_eq_true] at h hB1
      obtain ⟨⟨c0, c1⟩, c2⟩ := hB1
      split at h
      · rename_i c v hq
        obtain ⟨hc, hst, hrest⟩ := h
        have hri : i ∈ readyA deps listed := by
          obtain ⟨j, hj, e⟩ := List.any_eq_true.1 c1
          have := Nat.eq_of_beq_eq_true e
          rw [this]; exact hj
        have hfree : ∀ j oj, al[j]? = some oj → j ≠ i → listed.getD j true = false → i ∉ deps.getD j [] → o.apart oj = true := fun j oj hj hji hun hno => by
          have := List.all_eq_true.1 c2 j (List.mem_range.2 (List.getElem?_eq_some_iff.1 hj).1)
          simp only [Bool.or_eq_true] at this
          rcases this with ((h1 | h1) | h1) | h1
          · exact absurd (Nat.eq_of_beq_eq_true h1) hji
          · rw [hun] at h1; cases h1
          · exfalso
            obtain ⟨k, hk, e⟩ := List.any_eq_true.1 h1
            have := Nat.eq_of_beq_eq_true e
            rw [← this] at hk
            exact hno hk
          · rw [hj] at h1; exact h1
        have ih := aAny_schedT (P := P) (S0 := S0) (K := K) n hn l (listed.set i true) (putO o.dst v env) mem hB2 (by simpa using hlen) hS hrest
        rw [List.length_cons, show l.length + 1 + n = (l.length + n) + 1 by omega]
        refine aAny_first hi (l.length + n) listed env mem (.inl (Nat.le_refl _)) (by rw [← hlen]; simp [List.getD_eq_getElem?_getD]) hlen hri (fun m hm => ?_) hS hfree ih
        cases hp : o.pureB with
        | true => exact ⟨c, by rw [AOp.pure_qval hp (m' := mem)]; exact hq, hc⟩
        | false => rw [hp] at hst; exact hst m hm
      · exact h.elim

section
variable {P : Program} {env : Env} {mem m : Mem} {al : List AOp} {i : Nat} {S0 : Mem → Prop} {K : Env → Mem → Prop} {l : List Nat} {d : Option Nat} {Q : AX → Env → Mem → Prop} {t u : OT}
/-- **A region of open order: the quiet operations l first, then every order of t.** What the quiet ones read stays all along (S0). -/
theorem vAnyT {deps : List (List Nat)} (l : List Nat) (t : OT) (S0 : Mem → Prop) (hB : schedT al deps t l (List.replicate al.length false) = true) (hl : (Nat.beq al.length deps.length && Nat.ble (l.length + t.dep) al.length) = true) (hS : S0 mem)
    (h : aSchedT P al S0 (Q .normal) t l env mem) : awp P (.any al deps) Q env mem := by
  simp only [Bool.and_eq_true] at hl
  have h1 := Nat.eq_of_beq_eq_true hl.1
  have h2 := Nat.le_of_ble_eq_true hl.2
  have := aAny_schedT (P := P) (al := al) (deps := deps) (S0 := S0) (K := Q .normal) (t := t) (al.length - l.length) (by omega) l (List.replicate al.length false) env mem hB (by simp [h1]) hS h
  rw [show l.length + (al.length - l.length) = al.length by omega] at this
  exact ⟨_, this⟩
def tqV (P : Program) (r : Option (Prop × AV)) (x : AI) (pu : Bool) (d : Option Nat) (al : List AOp) (S0 : Mem → Prop) (K : Env → Mem → Prop) (t : OT) (l : List Nat) (env : Env) (mem : Mem) : Prop :=
  match r with
  | some (c, v) => c ∧ (bif pu then True else ∀ m, S0 m → ∃ c, x.val env m = some (c, v) ∧ c) ∧ aSchedT P al S0 K t l (putO d v env) mem
  | none => False
def tqO (P : Program) (oo : Option AOp) (al : List AOp) (S0 : Mem → Prop) (K : Env → Mem → Prop) (t : OT) (l : List Nat) (env : Env) (mem : Mem) : Prop :=
  match oo with
  | none => False
  | some o => match o.qval env mem with
    | some (c, v) => c ∧ (bif o.pureB then True else ∀ m, S0 m → ∃ c, o.qval env m = some (c, v) ∧ c) ∧ aSchedT P al S0 K t l (putO o.dst v env) mem
    | none => False
def tO (P : Program) (oo : Option AOp) (al : List AOp) (S0 : Mem → Prop) (K : Env → Mem → Prop) (t : OT) (env : Env) (mem : Mem) : Prop :=
  match oo with
  | none => False
  | some o => o.wp P env mem fun e m => S0 m ∧ aT P al S0 K t e m
def tV (P : Program) (r : Option (Prop × AV)) (d : Option Nat) (al : List AOp) (S0 : Mem → Prop) (K : Env → Mem → Prop) (t : OT) (env : Env) (mem : Mem) : Prop :=
  match r with
  | some (c, v) => c ∧ S0 mem ∧ aT P al S0 K t (putO d v env) mem
  | none => False
def tE (P : Program) (r : Option (Prop × AV × Mem)) (d : Option Nat) (al : List AOp) (S0 : Mem → Prop) (K : Env → Mem → Prop) (t : OT) (env : Env) : Prop :=
  match r with
  | some (c, v, m) => c ∧ S0 m ∧ aT P al S0 K t (putO d v env) m
  | none => False
def tK (P : Program) (d : Option Nat) (al : List AOp) (S0 : Mem → Prop) (K : Env → Mem → Prop) (t : OT) (env : Env) : AV → Mem → Prop := fun v m => S0 m ∧ aT P al S0 K t (putO d v env) m
def tC (P : Program) (f : AV) (args : List AV) (d : Option Nat) (al : List AOp) (S0 : Mem → Prop) (K : Env → Mem → Prop) (t : OT) (env : Env) (mem : Mem) : Prop :=
  match f with
  | .fn g caps => CallW P g (args ++ caps) mem (tK P d al S0 K t env)
  | _ => False
theorem tqNil : aSchedT P al S0 K t [] env mem = aT P al S0 K t env mem := rfl
theorem tqCons : aSchedT P al S0 K t (i :: l) env mem = tqO P al[i]? al S0 K t l env mem := by
  simp only [aSchedT, tqO]
theorem tqOV {x : AI} : tqO P (some ⟨d, none, .v x⟩) al S0 K t l env mem = tqV P (x.val env mem) x (AOp.pureB ⟨d, none, .v x⟩) d al S0 K t l env mem := by
  simp only [tqO, AOp.qval, tqV]
theorem tqVS {x : AI} {pu : Bool} {c : Prop} {v : AV} : tqV P (some (c, v)) x pu d al S0 K t l env mem = (c ∧ (bif pu then True else ∀ m, S0 m → ∃ c, x.val env m = some (c, v) ∧ c) ∧ aSchedT P al S0 K t l (putO d v env) mem) := rfl
theorem tLeaf : aT P al S0 K .leaf env mem = K env mem := rfl
theorem tFork : aT P al S0 K (.fork t u) env mem = (aT P al S0 K t env mem ∧ aT P al S0 K u env mem) := rfl
theorem tStep : aT P al S0 K (.step i t) env mem = tO P al[i]? al S0 K t env mem := rfl
theorem tOV {x : AI} : tO P (some ⟨d, none, .v x⟩) al S0 K t env mem = tV P (x.val env mem) d al S0 K t env mem := by
  simp only [tO, AOp.wp, AOp.act, tV]
  cases x.val env mem <;> rfl
theorem tOE {x : EI} : tO P (some ⟨d, none, .e x⟩) al S0 K t env mem = tE P (x.run env mem) d al S0 K t env := by
  simp only [tO, AOp.wp, AOp.act, tE]
  cases x.run env mem <;> rfl
theorem tOC {f : Opd} {args : List Opd} : tO P (some ⟨d, none, .call f args⟩) al S0 K t env mem = tC P (f.ev env) (args.map (Opd.ev env)) d al S0 K t env mem := by
  simp only [tO, AOp.wp, AOp.act, tC]
  cases f.ev env <;> rfl
theorem tCS {g : Nat} {caps args : List AV} : tC P (.fn g caps) args d al S0 K t env mem = CallW P g (args ++ caps) mem (tK P d al S0 K t env) := rfl
theorem tK_at {v : AV} : tK P d al S0 K t env v m = (S0 m ∧ aT P al S0 K t (putO d v env) m) := rfl
theorem tVS {c : Prop} {v : AV} : tV P (some (c, v)) d al S0 K t env mem = (c ∧ S0 mem ∧ aT P al S0 K t (putO d v env) mem) := rfl
theorem tES {c : Prop} {v : AV} : tE P (some (c, v, m)) d al S0 K t env = (c ∧ S0 m ∧ aT P al S0 K t (putO d v env) m) := rfl
end
def vqt := And.intro @tOC (And.intro @tCS (And.intro @tK_at (And.intro @tqNil (And.intro @tqCons (And.intro @tqOV (And.intro @tqVS (And.intro @tLeaf (And.intro @tFork (And.intro @tStep (And.intro @tOV (And.intro @tOE (And.intro @tVS (And.intro @tES (And.intro @AOp.pureB.eq_1 (And.intro @List.any_cons.{0} (And.intro @List.any_nil.{0} (And.intro @Bool.false_or (And.intro @Bool.or_false (And.intro @Bool.true_or @Bool.or_true)))))))))))))))))))
end Go.Ab
