/- What is shown of code over abstract states holds of the machine; functions. -/
import Derived.Test.YtiecnmojbdogfaaFwL
set_option linter.unusedSimpArgs false
set_option linter.unusedVariables false
namespace Go.Ab
open Go

section
variable {P : Program} {B N : Nat} {X Y : Nat → Prop} {w0 w1 : World} {bl1 : Nat → Loc} {mem1 : Mem}

theorem wp_loop_idx {c : Code} {Q : Exit → Act → World → Prop} {a : Act} {w : World} (I : Nat → Act → World → Prop) (n : Nat) (h₀ : I n a w)
    (round : ∀ n a w, I n a w → c.wp P (Exit.then (fun a' w' => ∃ n', n' < n ∧ I n' a' w') Q) a w) : (Code.loop c).wp P Q a w := by
  intro b k cs
  have key : ∀ n a w, I n a w → ∃ e a' w', Q e a' w' ∧ Arrives P (lone (b.at a (.code c :: .inLoop c :: k)) cs w) b k cs e a' w' := by
    intro n
    induction n using Nat.strongRecOn with
    | _ n ih =>
      intro a w hI
      obtain ⟨e, a₁, w₁, hq, harr⟩ := round n a w hI b (.inLoop c :: k) cs
      cases e with
      | normal =>
        obtain ⟨n', hlt, hI₁⟩ := hq
        obtain ⟨e₂, a₂, w₂, hq₂, harr₂⟩ := ih n' hlt a₁ w₁ hI₁
        exact ⟨e₂, a₂, w₂, hq₂, .of_steps (Steps.trans harr (.one step_inLoop)) harr₂⟩
      | exit id => exact ⟨_, a₁, w₁, hq, .pass (x := .inLoop c) rfl (fun _ _ => .inl (by simp)) harr⟩
      | goto l => exact ⟨_, a₁, w₁, hq, .pass (x := .inLoop c) rfl (fun _ _ => .inl (by simp)) harr⟩
      | ret => exact ⟨_, a₁, w₁, hq, .pass (x := .inLoop c) rfl (fun _ _ => .inl (by simp)) harr⟩
      | panic ch => exact ⟨_, a₁, w₁, hq, .pass (x := .inLoop c) rfl (fun _ _ => .inl (by simp)) harr⟩
      | outgrown => exact ⟨_, a₁, w₁, hq, .pass (x := .inLoop c) rfl (fun _ _ => .inl (by simp)) harr⟩
  obtain ⟨e, a', w', hq, harr⟩ := key n a w h₀
  exact ⟨e, a', w', hq, .of_steps (.one step_loop) harr⟩

theorem depsOf_length (ops : Array Oper) : (depsOf ops).length = ops.size := by simp [depsOf]

theorem ready_eq (ops : Array Oper) (listed : List Bool) : Region.ready .any ops listed.toArray = readyA (depsOf ops) listed := by
  unfold Region.ready readyA
  rw [depsOf_length]
  refine List.filter_congr fun i hi => ?_
  have hlt : i < ops.size := List.mem_range.1 hi
  have e1 : listed.toArray.getD i true = listed.getD i true := by simp [List.getD_eq_getElem?_getD]
  rw [e1]
  congr 1
  have e2 : (depsOf ops).getD i [] = ((ops[i]'hlt).after.toList.filter (Region.binds .any)).map (·.on) := by
    simp [depsOf, List.getD_eq_getElem?_getD, hlt]
  rw [e2]
  have e3 : ops[i]? = some (ops[i]'hlt) := by simp [hlt]
  rw [e3]
  simp only [Option.map_some, Option.getD_some, List.all_map, List.all_filter, ← Array.all_toList]
  refine List.all_congr rfl fun e => ?_
  simp only [Function.comp]
  have e4 : listed.toArray.getD e.on false = listed.getD e.on false := by simp [List.getD_eq_getElem?_getD]
  rw [e4]
  

theorem compL_get {ops : Array Oper} : ∀ (l : List Oper) (al : List AOp), compL P B N ops l = some al → al.length = l.length ∧ ∀ (i : Nat) (o : Oper), l[i]? = some o → ∃ ao, al[i]? = some ao ∧ compO P B N ops o = some ao
  | [], al, h => by
    simp only [compL, Option.some.injEq] at h
    subst h
    exact ⟨rfl, fun i o hi => by simp at hi⟩
  | o :: rest, al, h => by
    simp only [compL] at h
    split at h <;> cases h
    rename_i ao l' h1 h2
    obtain ⟨g1, g2⟩ := compL_get rest l' h2
    refine ⟨by simp [g1], fun i o' hi => ?_⟩
    cases i with
    | zero => simp at hi; subst hi; exact ⟨ao, rfl, h1⟩
    | succ i => simpa using g2 i o' (by simpa using hi)

theorem aAny_sound {ops : Array Oper} {al : List AOp} {S : List Bool → Mem → Prop} {K : Env → Mem → Prop} {Q : Exit → Act → World → Prop} (hc : compL P B N ops ops.toList = some al)
    (hk : ∀ env' mem' a' w', K env' mem' → ST N X Y w0 w1 bl1 mem1 a' w' env' mem' → Q .normal a' w') :
    ∀ (f : Nat) (listed : List Bool) (env : Env) (mem : Mem) (a : Act) (w : World), ST N X Y w0 w1 bl1 mem1 a w env mem → aAny P al (depsOf ops) S K f listed env mem → wpAny P .any ops Q f listed.toArray a w
  | 0, listed, env, mem, a, w, hst, h => ⟨by rw [ready_eq]; exact h.1, hk _ _ _ _ h.2 hst⟩
  | f + 1, listed, env, mem, a, w, hst, h => by
    refine ⟨fun e => hk _ _ _ _ (h.1 (by rw [← ready_eq]; exact e)) hst, fun i hi => ?_⟩
    rw [ready_eq] at hi
    obtain ⟨o, ho, hw⟩ := h.2 i hi
    have hlt : i < ops.size := by have := (mem_readyA.1 hi).1; rw [depsOf_length] at this; exact this
    obtain ⟨ao, h1, h2⟩ := (compL_get _ _ hc).2 i ops[i] (by simp [hlt])
    have hao : ao = o := by rw [ho] at h1; exact (Option.some.inj h1).symm
    subst hao
    unfold wpOp
    have e3 : ops[i]? = some (ops[i]'hlt) := by simp [hlt]
    rw [e3]
    simp only
    refine aop_sound h2 hst hw fun env' mem' a' w' hK hst' => ?_
    have := aAny_sound hc hk f (listed.set i true) env' mem' a' w' hst' hK.2
    have e5 : (listed.set i true).toArray = listed.toArray.setIfInBounds i true := by simp
    rw [← e5]
    exact this

def AX.to : AX → Exit
  | .normal => .normal
  | .exit id => .exit id
  | .ret => .ret

/-- **Code.** -/
theorem awp_sound (hm : P.follows .mixedOrders = true) : ∀ (c : Code) (ac : AC) (QA : AX → Env → Mem → Prop) (Q : Exit → Act → World → Prop) (env : Env) (mem : Mem) (a : Act) (w : World), compC P B N c = some ac → ST N X Y w0 w1 bl1 mem1 a w env mem → awp P ac QA env mem →
    (∀ x env' mem' a' w', QA x env' mem' → ST N X Y w0 w1 bl1 mem1 a' w' env' mem' → Q x.to a' w') → c.wp P Q a w
  | .skip, ac, QA, Q, env, mem, a, w, hc, hst, h, hk => by cases hc; exact wp_skip (hk .normal _ _ _ _ h hst)
  | .ret, ac, QA, Q, env, mem, a, w, hc, hst, h, hk => by cases hc; exact wp_ret (hk .ret _ _ _ _ h hst)
  | .exit id, ac, QA, Q, env, mem, a, w, hc, hst, h, hk => by cases hc; exact wp_exit (hk (.exit id) _ _ _ _ h hst)
  | .region id ops draw, ac, QA, Q, env, mem, a, w, hc, hst, h, hk => by
    cases draw with
    | false =>
      simp only [compC] at hc
      obtain ⟨al, hal, e⟩ := Option.map_eq_some_iff.1 hc
      subst e
      have := awpL_sound (Q := Q) (ops := ops) (fun env' mem' a' w' hK hst' => hk .normal env' mem' a' w' hK hst') ops.toList al env mem a w hal hst h
      refine wp_region ?_
      have e1 : List.range ops.size = List.range' 0 ops.toList.length := by simp [List.range_eq_range']
      rw [e1, wpOps_eq_wpList ops.toList 0 (fun j => by simp)]
      exact this
    | true =>
      simp only [compC] at hc
      obtain ⟨al, hal, e⟩ := Option.map_eq_some_iff.1 hc
      subst e
      obtain ⟨S, h⟩ := h
      refine wp_region_any hm ?_
      have hlen : al.length = ops.size := by simpa using (compL_get _ _ hal).1
      rw [hlen] at h
      have e1 : (List.replicate ops.size false).toArray = Array.replicate ops.size false := by simp
      rw [← e1]
      refine aAny_sound hal (fun env' mem' a' w' hK hst' => hk .normal env' mem' a' w' hK hst') _ _ env mem a _ ?_ h
      obtain ⟨h1, h2, bl, hw, hv, hbF, hbL⟩ := hst
      obtain ⟨g1, g2⟩ := hw.drew
      exact ⟨h1, h2, bl, g1, fun k => (hv k).mono g2 (Later.refl _ _), fun b hb => ⟨(g2 b (hbF b hb).1).1, (hbF b hb).2⟩, hbL⟩
  | .seq x y, ac, QA, Q, env, mem, a, w, hc, hst, h, hk => by
    simp only [compC] at hc
    split at hc <;> cases hc
    rename_i x' y' hx hy
    refine wp_seq (awp_sound hm x x' _ _ env mem a w hx hst h fun z env' mem' a' w' hq hst' => ?_)
    cases z with
    | normal => exact awp_sound hm y y' QA Q env' mem' a' w' hy hst' hq hk
    | exit id => exact hk (.exit id) _ _ _ _ hq hst'
    | ret => exact hk .ret _ _ _ _ hq hst'
  | .cond c x y, ac, QA, Q, env, mem, a, w, hc, hst, h, hk => by
    simp only [compC] at hc
    split at hc <;> cases hc
    rename_i x' y' hx hy
    simp only [awp] at h
    split at h
    · rename_i t hcv
      have hb : a.eval c = .bool t := by
        obtain ⟨h1, h2, bl, hw, hv, hbF, hbL⟩ := hst
        have := VV.opd hv c
        rw [hcv] at this
        exact this.bool_inv
      refine wp_cond hb ?_
      cases t with
      | true => exact awp_sound hm x x' QA Q env mem a w hx hst h hk
      | false => exact awp_sound hm y y' QA Q env mem a w hy hst h hk
    · exact h.elim
  | .block id x, ac, QA, Q, env, mem, a, w, hc, hst, h, hk => by
    simp only [compC] at hc
    obtain ⟨x', hx, e⟩ := Option.map_eq_some_iff.1 hc
    subst e
    refine wp_block (awp_sound hm x x' _ _ env mem a w hx hst h fun z env' mem' a' w' hq hst' => ?_)
    cases z with
    | normal => exact hk .normal _ _ _ _ hq hst'
    | exit j =>
      simp only [AX.to, Exit.inBlock]
      by_cases e : j = id
      · subst e
        simp only [Nat.beq_refl, cond_true] at hq
        simp only [if_true]
        exact hk .normal _ _ _ _ hq hst'
      · simp only [beq_false_of_ne e, cond_false] at hq
        rw [if_neg e]
        exact hk (.exit j) _ _ _ _ hq hst'
    | ret => exact hk .ret _ _ _ _ hq hst'
  | .loop x, ac, QA, Q, env, mem, a, w, hc, hst, h, hk => by
    simp only [compC] at hc
    obtain ⟨x', hx, e⟩ := Option.map_eq_some_iff.1 hc
    subst e
    obtain ⟨I, ⟨n0, e0, m0, hs0, h0⟩, h1⟩ := h
    refine wp_loop_idx (fun n a' w' => ∃ e m, I n e m ∧ ST N X Y w0 w1 bl1 mem1 a' w' e m) n0 ⟨e0, m0, h0, hst.shift hs0⟩ fun n a1 w1 ⟨e1, m1, hI, hst1⟩ => ?_
    refine awp_sound hm x x' _ _ e1 m1 a1 w1 hx hst1 (h1 n e1 m1 hI) fun z env' mem' a' w' hq hst' => ?_
    cases z with
    | normal =>
      obtain ⟨n', e2, m2, hlt, hs, hI'⟩ := hq
      exact ⟨n', hlt, e2, m2, hI', hst'.shift hs⟩
    | exit id => exact hk (.exit id) _ _ _ _ hq hst'
    | ret => exact hk .ret _ _ _ _ hq hst'
  | .scope x, ac, QA, Q, env, mem, a, w, hc, hst, h, hk => by simp [compC] at hc
  | .label l, ac, QA, Q, env, mem, a, w, hc, hst, h, hk => by simp [compC] at hc
  | .goto l, ac, QA, Q, env, mem, a, w, hc, hst, h, hk => by simp [compC] at hc
  | .refuse y, ac, QA, Q, env, mem, a, w, hc, hst, h, hk => by simp [compC] at hc
  | .rangeFunc f p x y, ac, QA, Q, env, mem, a, w, hc, hst, h, hk => by simp [compC] at hc

end
end Go.Ab
