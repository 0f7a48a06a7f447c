/- Regions of open order with several stores. -/
import Derived.Test.YtodncnlnadgkhacFwZ
set_option linter.unusedSimpArgs false
set_option linter.unusedVariables false
namespace Go.Ab
open Go

/-! ### the same, where a part is left as it was all along, another part up to the operation b -/
theorem aAny_firstA {P : Program} {al : List AOp} {deps : List (List Nat)} {S0 S1 : Mem → Prop} {K : Env → Mem → Prop} {b i : Nat} {o : AOp} {v : AV} (hi : al[i]? = some o) :
    ∀ (fuel : Nat) (listed : List Bool) (env : Env) (mem : Mem), (deps.length ≤ b ∨ (Late deps listed i b ∧ i ≠ b)) → listed.getD b false = false → listed.length = deps.length → i ∈ readyA deps listed → (∀ m, S1 m → S0 m → ∃ c, o.qval env m = some (c, v) ∧ c) → S1 mem → S0 mem →
      (∀ j oj, al[j]? = some oj → j ≠ i → listed.getD j true = false → i ∉ deps.getD j [] → o.apart oj = true) →
      aAny P al deps (fun ls m => S1 m ∧ (ls.getD b false = true ∨ S0 m)) K fuel (listed.set i true) (putO o.dst v env) mem → aAny P al deps (fun ls m => S1 m ∧ (ls.getD b false = true ∨ S0 m)) K (fuel + 1) listed env mem := by
  intro fuel
  induction fuel with
  | zero =>
    intro listed env mem hb hbl hlen hr hy hT hS hfree H
    refine ⟨fun h => (by rw [h] at hr; cases hr), fun j hj => ?_⟩
    by_cases hji : j = i
    · subst hji
      obtain ⟨c, hq, hc⟩ := hy mem hT hS
      exact ⟨o, hi, AOp.wp_of_qval hq hc ⟨⟨hT, .inr hS⟩, H⟩⟩
    · have := readyA_mono hj hji
      rw [H.1] at this
      cases this
  | succ fuel ih =>
    intro listed env mem hb hbl hlen hr hy hT hS hfree H
    refine ⟨fun h => (by rw [h] at hr; cases hr), fun j hj => ?_⟩
    by_cases hji : j = i
    · subst hji
      obtain ⟨c, hq, hc⟩ := hy mem hT hS
      exact ⟨o, hi, AOp.wp_of_qval hq hc ⟨⟨hT, .inr hS⟩, H⟩⟩
    · obtain ⟨oj, hoj, hwp⟩ := H.2 j (readyA_mono hj hji)
      obtain ⟨hjlt, hjun, hjall⟩ := mem_readyA.1 hj
      obtain ⟨hilt, hiun, hiall⟩ := mem_readyA.1 hr
      have hiun' : listed.getD i false = false := by
        have : i < listed.length := by omega
        simp [List.getD_eq_getElem?_getD, this] at hiun ⊢; exact hiun
      have hnot : i ∉ deps.getD j [] := fun h => by have := hjall i h; rw [hiun'] at this; cases this
      have hap := hfree j oj hoj hji hjun hnot
      simp only [AOp.apart, Bool.and_eq_true, Bool.not_eq_true'] at hap
      obtain ⟨⟨h1, h2⟩, h3⟩ := hap
      have hlj : ∀ k, o.dst = some k → oj.looks k = false := fun k hk => by rw [hk] at h1; simpa using h1
      have hli : ∀ k, oj.dst = some k → o.looks k = false := fun k hk => by rw [hk] at h2; simpa using h2
      have hdd : ∀ k, o.dst = some k → oj.dst ≠ some k := fun k hk hk2 => by rw [hk, hk2] at h3; simp [dstEq] at h3
      have hjb : j ≠ b := fun e => by
        subst e
        rcases hb with hb | hb
        · omega
        · cases hb.1 with
          | base => exact hji rfl
          | step hk1 hk2 _ => have := hjall _ hk1; rw [hk2] at this; cases this
      have hb' : deps.length ≤ b ∨ (Late deps (listed.set j true) i b ∧ i ≠ b) := hb.imp id fun hb => ⟨hb.1.set hji hjall, hb.2⟩
      have hbl' : (listed.set j true).getD b false = false := by rw [getD_set_ne' hjb]; exact hbl
      refine ⟨oj, hoj, ?_⟩
      -- what is put by 'oj' does not touch what 'o' reads
      have key : oj.wp P env mem (fun e m => (∃ u, e = putO oj.dst u env) ∧ (S1 m ∧ (((listed.set i true).set j true).getD b false = true ∨ S0 m)) ∧ aAny P al deps (fun ls m => S1 m ∧ (ls.getD b false = true ∨ S0 m)) K fuel ((listed.set i true).set j true) (putO o.dst v e) m) := by
        have hw := AOp.wp_put (v := v) hlj hdd hwp
        have hput : ∀ {K' : Env → Mem → Prop}, oj.wp P env mem K' → oj.wp P env mem (fun e m => (∃ u, e = putO oj.dst u env) ∧ K' e m) := fun {K'} h => by
          have hact : oj.act P env mem K' → oj.act P env mem (fun e m => (∃ u, e = putO oj.dst u env) ∧ K' e m) := fun h => by
            unfold AOp.act at *
            split at h
            · split at h
              · exact ⟨h.1, ⟨_, rfl⟩, h.2⟩
              · exact h
            · split at h
              · exact ⟨h.1, ⟨_, rfl⟩, h.2⟩
              · exact h
            · split at h
              · exact h.mono fun r m hk => ⟨⟨_, rfl⟩, hk⟩
              · exact h
            · split at h
              · exact fun b hb => ⟨⟨_, rfl⟩, h b hb⟩
              · exact ⟨⟨_, rfl⟩, h⟩
              · split at h
                · exact ⟨h.1, fun b hb => ⟨⟨_, rfl⟩, h.2 b hb⟩⟩
                · exact h
              · exact h
            · exact h
          unfold AOp.wp at *
          split at h
          · exact hact h
          · split at h
            · split at h
              · exact hact h
              · exact hact h
              · exact ⟨⟨_, rfl⟩, h⟩
            · exact ⟨⟨_, rfl⟩, h⟩
            · exact h
        exact hput hw
      refine AOp.wp_mono key fun e m ⟨⟨u, hu⟩, ⟨hT', hSS⟩, hrest⟩ => ?_
      have hS' : S0 m := by
        rcases hSS with h | h
        · exfalso
          have hib : i ≠ b := fun e => by
            subst e
            rcases hb with hb | hb
            · omega
            · exact hb.2 rfl
          rw [getD_set_ne' hjb, getD_set_ne' hib, hbl] at h
          cases h
        · exact h
      refine ⟨⟨hT', .inr hS'⟩, ih (listed.set j true) e m hb' hbl' (by simpa using hlen) (readyA_mono hr (Ne.symm hji)) (fun m' h9 hm' => ?_) hT' hS' (fun k ok hk hki hkun hno => ?_) ?_⟩
      · rw [hu, AOp.qval_put hli]; exact hy m' h9 hm'
      · refine hfree k ok hk hki ?_ hno
        by_cases hjk : j = k
        · subst hjk; exact hjun
        · rw [getD_set_ne' hjk] at hkun; exact hkun
      · rw [List.set_comm _ _ hji]
        exact hrest
theorem aAny_firstB {P : Program} {al : List AOp} {deps : List (List Nat)} {S0 S1 : Mem → Prop} {K : Env → Mem → Prop} {b i : Nat} {o : AOp} {v : AV} (hi : al[i]? = some o) (hib : i ≠ b) :
    ∀ (fuel : Nat) (listed : List Bool) (env : Env) (mem : Mem), listed.length = deps.length → i ∈ readyA deps listed → (∀ m, S1 m → ∃ c, o.qval env m = some (c, v) ∧ c) → S1 mem → (listed.getD b false = true ∨ S0 mem) →
      (∀ j oj, al[j]? = some oj → j ≠ i → listed.getD j true = false → i ∉ deps.getD j [] → o.apart oj = true) →
      aAny P al deps (fun ls m => S1 m ∧ (ls.getD b false = true ∨ S0 m)) K fuel (listed.set i true) (putO o.dst v env) mem → aAny P al deps (fun ls m => S1 m ∧ (ls.getD b false = true ∨ S0 m)) K (fuel + 1) listed env mem := by
  intro fuel
  induction fuel with
  | zero =>
    intro listed env mem hlen hr hy hT hS hfree H
    refine ⟨fun h => (by rw [h] at hr; cases hr), fun j hj => ?_⟩
    by_cases hji : j = i
    · subst hji
      obtain ⟨c, hq, hc⟩ := hy mem hT
      exact ⟨o, hi, AOp.wp_of_qval hq hc ⟨⟨hT, by show (listed.set j true).getD b false = true ∨ S0 mem; rw [getD_set_ne' hib]; exact hS⟩, H⟩⟩
    · have := readyA_mono hj hji
      rw [H.1] at this
      cases this
  | succ fuel ih =>
    intro listed env mem hlen hr hy hT hS hfree H
    refine ⟨fun h => (by rw [h] at hr; cases hr), fun j hj => ?_⟩
    by_cases hji : j = i
    · subst hji
      obtain ⟨c, hq, hc⟩ := hy mem hT
      exact ⟨o, hi, AOp.wp_of_qval hq hc ⟨⟨hT, by show (listed.set j true).getD b false = true ∨ S0 mem; rw [getD_set_ne' hib]; exact hS⟩, H⟩⟩
    · obtain ⟨oj, hoj, hwp⟩ := H.2 j (readyA_mono hj hji)
      obtain ⟨hjlt, hjun, hjall⟩ := mem_readyA.1 hj
      obtain ⟨hilt, hiun, hiall⟩ := mem_readyA.1 hr
      have hiun' : listed.getD i false = false := by
        have : i < listed.length := by omega
        simp [List.getD_eq_getElem?_getD, this] at hiun ⊢; exact hiun
      have hnot : i ∉ deps.getD j [] := fun h => by have := hjall i h; rw [hiun'] at this; cases this
      have hap := hfree j oj hoj hji hjun hnot
      simp only [AOp.apart, Bool.and_eq_true, Bool.not_eq_true'] at hap
      obtain ⟨⟨h1, h2⟩, h3⟩ := hap
      have hlj : ∀ k, o.dst = some k → oj.looks k = false := fun k hk => by rw [hk] at h1; simpa using h1
      have hli : ∀ k, oj.dst = some k → o.looks k = false := fun k hk => by rw [hk] at h2; simpa using h2
      have hdd : ∀ k, o.dst = some k → oj.dst ≠ some k := fun k hk hk2 => by rw [hk, hk2] at h3; simp [dstEq] at h3
      refine ⟨oj, hoj, ?_⟩
      -- what is put by 'oj' does not touch what 'o' reads
      have key : oj.wp P env mem (fun e m => (∃ u, e = putO oj.dst u env) ∧ (S1 m ∧ (((listed.set i true).set j true).getD b false = true ∨ S0 m)) ∧ aAny P al deps (fun ls m => S1 m ∧ (ls.getD b false = true ∨ S0 m)) K fuel ((listed.set i true).set j true) (putO o.dst v e) m) := by
        have hw := AOp.wp_put (v := v) hlj hdd hwp
        have hput : ∀ {K' : Env → Mem → Prop}, oj.wp P env mem K' → oj.wp P env mem (fun e m => (∃ u, e = putO oj.dst u env) ∧ K' e m) := fun {K'} h => by
          have hact : oj.act P env mem K' → oj.act P env mem (fun e m => (∃ u, e = putO oj.dst u env) ∧ K' e m) := fun h => by
            unfold AOp.act at *
            split at h
            · split at h
              · exact ⟨h.1, ⟨_, rfl⟩, h.2⟩
              · exact h
            · split at h
              · exact ⟨h.1, ⟨_, rfl⟩, h.2⟩
              · exact h
            · split at h
              · exact h.mono fun r m hk => ⟨⟨_, rfl⟩, hk⟩
              · exact h
            · split at h
              · exact fun b hb => ⟨⟨_, rfl⟩, h b hb⟩
              · exact ⟨⟨_, rfl⟩, h⟩
              · split at h
                · exact ⟨h.1, fun b hb => ⟨⟨_, rfl⟩, h.2 b hb⟩⟩
                · exact h
              · exact h
            · exact h
          unfold AOp.wp at *
          split at h
          · exact hact h
          · split at h
            · split at h
              · exact hact h
              · exact hact h
              · exact ⟨⟨_, rfl⟩, h⟩
            · exact ⟨⟨_, rfl⟩, h⟩
            · exact h
        exact hput hw
      refine AOp.wp_mono key fun e m ⟨⟨u, hu⟩, ⟨hT', hSS⟩, hrest⟩ => ?_
      have hS' : (listed.set j true).getD b false = true ∨ S0 m := by
        rw [List.set_comm _ _ (Ne.symm hji), getD_set_ne' hib] at hSS
        exact hSS
      refine ⟨⟨hT', hS'⟩, ih (listed.set j true) e m (by simpa using hlen) (readyA_mono hr (Ne.symm hji)) (fun m' h9 => ?_) hT' hS' (fun k ok hk hki hkun hno => ?_) ?_⟩
      · rw [hu, AOp.qval_put hli]; exact hy m' h9
      · refine hfree k ok hk hki ?_ hno
        by_cases hjk : j = k
        · subst hjk; exact hjun
        · rw [getD_set_ne' hjk] at hkun; exact hkun
      · rw [List.set_comm _ _ hji]
        exact hrest
def aSchedQ (P : Program) (al : List AOp) (an : List Nat) (b : Nat) (S0 S1 : Mem → Prop) (K : Env → Mem → Prop) : List Nat → Bool → Env → Mem → Prop
  | [], _, env, mem => K env mem
  | i :: l, db, env, mem => match al[i]? with
    | none => False
    | some o => bif o.isV then
        match o.qval env mem with
        | some (c, v) => c ∧ (bif o.pureB then True else bif an.any (Nat.beq i) then ∀ m, S1 m → ∃ c, o.qval env m = some (c, v) ∧ c else ∀ m, S1 m → S0 m → ∃ c, o.qval env m = some (c, v) ∧ c) ∧ aSchedQ P al an b S0 S1 K l db (putO o.dst v env) mem
        | none => False
      else o.wp P env mem fun e m => S1 m ∧ (bif db || Nat.beq i b then True else S0 m) ∧ aSchedQ P al an b S0 S1 K l (db || Nat.beq i b) e m
def schedQ (al : List AOp) (deps : List (List Nat)) (an : List Nat) (b : Nat) : List Nat → List Bool → Bool
  | [], listed => (readyA deps listed).isEmpty
  | i :: l, listed => (match al[i]? with
    | none => false
    | some o => bif o.isV then (readyA deps listed).any (Nat.beq i) && freeB al deps listed i o && !(Nat.beq i b) && (bif o.pureB || an.any (Nat.beq i) then true else lateB deps listed i deps.length b && !(listed.getD b false))
      else !(readyA deps listed).isEmpty && (match readyA deps listed with | [j] => Nat.beq i j | _ => false)) && schedQ al deps an b l (listed.set i true)
theorem aAny_schedQ {P : Program} {al : List AOp} {deps : List (List Nat)} {an : List Nat} {b : Nat} {S0 S1 : Mem → Prop} {K : Env → Mem → Prop} (hal : al.length = deps.length) :
    ∀ (l : List Nat) (listed : List Bool) (db : Bool) (env : Env) (mem : Mem), schedQ al deps an b l listed = true → listed.length = deps.length → db = listed.getD b false → S1 mem → (db = true ∨ S0 mem) → aSchedQ P al an b S0 S1 K l db env mem →
      aAny P al deps (fun ls m => S1 m ∧ (ls.getD b false = true ∨ S0 m)) K l.length listed env mem
  | [], listed, db, env, mem, hB, hlen, hdb, hT, hS, h => by
    simp only [schedQ, List.isEmpty_iff] at hB
    exact ⟨hB, h⟩
  | i :: l, listed, db, env, mem, hB, hlen, hdb, hT, hS, h => by
    simp only [schedQ, Bool.and_eq_true] at hB
    obtain ⟨hB1, hB2⟩ := hB
    simp only [aSchedQ] at h
    cases hi : al[i]? with
    | none => rw [hi] at h; exact h.elim
    | some o =>
      rw [hi] at h hB1
      simp only at h hB1
      cases hv : o.isV with
      | true =>
        rw [hv] at h hB1
        simp only [cond_true, Bool.and_eq_true, Bool.not_eq_true'] at h hB1
        obtain ⟨⟨⟨c1, c2⟩, c3⟩, c4⟩ := hB1
        have hib := ne_of_beq_false c3
        split at h
        · rename_i c v hq
          obtain ⟨hc, hst, hrest⟩ := h
          have hri : i ∈ readyA deps listed := by
            obtain ⟨j, hj, e⟩ := List.any_eq_true.1 c1
            have := Nat.eq_of_beq_eq_true e
            rw [this]; exact hj
          have hdb' : db = (listed.set i true).getD b false := by rw [getD_set_ne' hib]; exact hdb
          have hS' : listed.getD b false = true ∨ S0 mem := by rw [← hdb]; exact hS
          have hfree : ∀ j oj, al[j]? = some oj → j ≠ i → listed.getD j true = false → i ∉ deps.getD j [] → o.apart oj = true := fun j oj hj hji hun hno => by
            have := List.all_eq_true.1 c2 j (List.mem_range.2 (List.getElem?_eq_some_iff.1 hj).1)
            simp only [Bool.or_eq_true] at this
            rcases this with ((h1 | h1) | h1) | h1
            · exact absurd (Nat.eq_of_beq_eq_true h1) hji
            · rw [hun] at h1; cases h1
            · exfalso
              obtain ⟨k, hk, e⟩ := List.any_eq_true.1 h1
              have := Nat.eq_of_beq_eq_true e
              rw [← this] at hk
              exact hno hk
            · rw [hj] at h1; exact h1
          have ih := aAny_schedQ (an := an) hal l (listed.set i true) db (putO o.dst v env) mem hB2 (by simpa using hlen) hdb' hT hS hrest
          cases hp : o.pureB with
          | true => exact aAny_firstB hi hib l.length listed env mem hlen hri (fun m _ => ⟨c, by rw [AOp.pure_qval hp (m' := mem)]; exact hq, hc⟩) hT hS' hfree ih
          | false =>
            rw [hp] at hst c4
            cases ha : an.any (Nat.beq i) with
            | true =>
              rw [ha] at hst
              exact aAny_firstB hi hib l.length listed env mem hlen hri hst hT hS' hfree ih
            | false =>
              rw [ha] at hst c4
              simp only [Bool.or_self, cond_false, Bool.and_eq_true, Bool.not_eq_true'] at c4
              have hS0 : S0 mem := hS'.resolve_left (by rw [c4.2]; simp)
              exact aAny_firstA hi l.length listed env mem (.inr ⟨late_of c4.1, hib⟩) c4.2 hlen hri hst hT hS0 hfree ih
        · exact h.elim
      | false =>
        rw [hv] at h hB1
        simp only [cond_false, Bool.and_eq_true] at h hB1
        have hr : readyA deps listed = [i] := by
          have hB1 := hB1.2
          split at hB1
          · rename_i j hj
            rw [hj, Nat.eq_of_beq_eq_true hB1]
          · cases hB1
        refine ⟨fun e => (by rw [hr] at e; cases e), fun j hj => ?_⟩
        rw [hr] at hj
        simp only [List.mem_singleton] at hj
        subst hj
        refine ⟨o, hi, AOp.wp_mono h fun e m ⟨hA, hA2, hrest⟩ => ?_⟩
        have hlt : j < listed.length := by
          have : j ∈ readyA deps listed := by rw [hr]; simp
          have := (mem_readyA.1 this).1; omega
        have hdb' : (db || Nat.beq j b) = (listed.set j true).getD b false := by
          cases hb : Nat.beq j b with
          | true =>
            have := Nat.eq_of_beq_eq_true hb
            subst this
            simp [List.getD_eq_getElem?_getD, hlt]
          | false =>
            rw [getD_set_ne' (ne_of_beq_false hb), ← hdb]; simp
        have hS' : (db || Nat.beq j b) = true ∨ S0 m := by
          cases hb : (db || Nat.beq j b) with
          | true => exact .inl rfl
          | false => rw [hb] at hA2; exact .inr hA2
        refine ⟨⟨hA, by rw [← hdb']; exact hS'⟩, aAny_schedQ hal l _ _ _ _ hB2 (by simpa using hlen) hdb' hA hS' hrest⟩
section
variable {P : Program} {env : Env} {mem m : Mem} {al : List AOp} {an : List Nat} {b i : Nat} {S0 S1 : Mem → Prop} {K : Env → Mem → Prop} {l : List Nat} {d : Option Nat} {Q : AX → Env → Mem → Prop} {db : Bool}
/-- **A region of open order with several stores**: what the operations 'an' read stays all along (S1), what the others read stays up to the operation b (S0). -/
theorem vAnyQ {deps : List (List Nat)} (l an : List Nat) (b : Nat) (S0 S1 : Mem → Prop) (hB : schedQ al deps an b l (List.replicate al.length false) = true) (hl : (Nat.beq al.length deps.length && Nat.beq l.length al.length) = true) (hT : S1 mem) (hS : S0 mem)
    (h : aSchedQ P al an b S0 S1 (Q .normal) l false env mem) : awp P (.any al deps) Q env mem := by
  simp only [Bool.and_eq_true] at hl
  have h1 := Nat.eq_of_beq_eq_true hl.1
  have h2 := Nat.eq_of_beq_eq_true hl.2
  have := aAny_schedQ (P := P) (al := al) (deps := deps) (an := an) (b := b) (S0 := S0) (S1 := S1) (K := Q .normal) h1 l (List.replicate al.length false) false env mem hB (by simp [h1]) (by simp [List.getD_eq_getElem?_getD, List.getElem?_replicate]; split <;> rfl) hT (.inr hS) h
  rw [h2] at this
  exact ⟨_, this⟩
def sqV (P : Program) (r : Option (Prop × AV)) (x : AI) (pu any : Bool) (d : Option Nat) (al : List AOp) (an : List Nat) (b : Nat) (S0 S1 : Mem → Prop) (K : Env → Mem → Prop) (l : List Nat) (db : Bool) (env : Env) (mem : Mem) : Prop :=
  match r with
  | some (c, v) => c ∧ (bif pu then True else bif any then ∀ m, S1 m → ∃ c, x.val env m = some (c, v) ∧ c else ∀ m, S1 m → S0 m → ∃ c, x.val env m = some (c, v) ∧ c) ∧ aSchedQ P al an b S0 S1 K l db (putO d v env) mem
  | none => False
def sqE (P : Program) (r : Option (Prop × AV × Mem)) (i : Nat) (d : Option Nat) (al : List AOp) (an : List Nat) (b : Nat) (S0 S1 : Mem → Prop) (K : Env → Mem → Prop) (l : List Nat) (db : Bool) (env : Env) : Prop :=
  match r with
  | some (c, v, m) => c ∧ S1 m ∧ (bif db || Nat.beq i b then True else S0 m) ∧ aSchedQ P al an b S0 S1 K l (db || Nat.beq i b) (putO d v env) m
  | none => False
def sqO (P : Program) (oo : Option AOp) (i : Nat) (al : List AOp) (an : List Nat) (b : Nat) (S0 S1 : Mem → Prop) (K : Env → Mem → Prop) (l : List Nat) (db : Bool) (env : Env) (mem : Mem) : Prop :=
  match oo with
  | none => False
  | some o => bif o.isV then
        match o.qval env mem with
        | some (c, v) => c ∧ (bif o.pureB then True else bif an.any (Nat.beq i) then ∀ m, S1 m → ∃ c, o.qval env m = some (c, v) ∧ c else ∀ m, S1 m → S0 m → ∃ c, o.qval env m = some (c, v) ∧ c) ∧ aSchedQ P al an b S0 S1 K l db (putO o.dst v env) mem
        | none => False
      else o.wp P env mem fun e m => S1 m ∧ (bif db || Nat.beq i b then True else S0 m) ∧ aSchedQ P al an b S0 S1 K l (db || Nat.beq i b) e m
theorem sqNil : aSchedQ P al an b S0 S1 K [] db env mem = K env mem := rfl
theorem sqCons : aSchedQ P al an b S0 S1 K (i :: l) db env mem = sqO P al[i]? i al an b S0 S1 K l db env mem := by
  simp only [aSchedQ, sqO]
theorem sqOV {x : AI} : sqO P (some ⟨d, none, .v x⟩) i al an b S0 S1 K l db env mem = sqV P (x.val env mem) x (AOp.pureB ⟨d, none, .v x⟩) (an.any (Nat.beq i)) d al an b S0 S1 K l db env mem := by
  simp only [sqO, AOp.isV, cond_true, AOp.qval, sqV]
theorem sqVS {x : AI} {pu any : Bool} {c : Prop} {v : AV} : sqV P (some (c, v)) x pu any d al an b S0 S1 K l db env mem = (c ∧ (bif pu then True else bif any then ∀ m, S1 m → ∃ c, x.val env m = some (c, v) ∧ c else ∀ m, S1 m → S0 m → ∃ c, x.val env m = some (c, v) ∧ c) ∧ aSchedQ P al an b S0 S1 K l db (putO d v env) mem) := rfl
theorem sqOE {x : EI} : sqO P (some ⟨d, none, .e x⟩) i al an b S0 S1 K l db env mem = sqE P (x.run env mem) i d al an b S0 S1 K l db env := by
  simp only [sqO, AOp.isV, cond_false, AOp.wp, AOp.act, sqE]
  cases x.run env mem <;> rfl
theorem sqES {c : Prop} {v : AV} : sqE P (some (c, v, m)) i d al an b S0 S1 K l db env = (c ∧ S1 m ∧ (bif db || Nat.beq i b then True else S0 m) ∧ aSchedQ P al an b S0 S1 K l (db || Nat.beq i b) (putO d v env) m) := rfl
end
end Go.Ab
