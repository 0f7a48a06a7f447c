/- Code over abstract states, and that it tells of the machine. -/
import Derived.Test.YtiecnmojbdogfaaFwK
set_option linter.unusedSimpArgs false
set_option linter.unusedVariables false
namespace Go.Ab
open Go

/-! ### a schedule for a region whose order is open -/
def Agree (L : Nat → Bool) (m0 m : Mem) : Prop := ∀ i, L i = true → m i = m0 i
def restr (L : Nat → Bool) (m : Mem) : Mem := fun i => bif L i then m i else .dead 0

theorem restr_agree {L : Nat → Bool} {m0 m : Mem} (h : Agree L m0 m) : restr L m = restr L m0 := by
  funext i
  unfold restr
  cases hb : L i with
  | false => rfl
  | true => exact h _ hb

theorem restr_key {L : Nat → Bool} {m : Mem} {id : Nat} (hl : (restr L m id).live = true) : restr L m id = m id := by
  unfold restr at hl ⊢
  cases hb : L id with
  | false => rw [hb] at hl; cases hl
  | true => rfl
theorem lenV_restr {L : Nat → Bool} {m : Mem} {x : AV} {r : Prop × AV} (h : lenV (restr L m) x = some r) : lenV m x = some r := by
  unfold lenV at h ⊢
  split at h <;> try cases h
  split at h
  · rename_i hm
    have := restr_key (by rw [hm]; rfl)
    rw [← this, hm]; exact h
  · cases h
theorem fldV_restr {L : Nat → Bool} {m : Mem} {off : Nat} {x : AV} {r : Prop × AV} (h : fldV (restr L m) off x = some r) : fldV m off x = some r := by
  unfold fldV at h ⊢
  split at h <;> try cases h
  split at h
  · rename_i hm
    have := restr_key (by rw [hm]; rfl)
    rw [← this, hm]; exact h
  · cases h
theorem idxV_restr {L : Nat → Bool} {m : Mem} {sz : Nat} {x i : AV} {r : Prop × AV} (h : idxV (restr L m) sz x i = some r) : idxV m sz x i = some r := by
  unfold idxV at h ⊢
  split at h <;> try cases h
  split at h <;> try cases h
  split at h
  · rename_i hm
    have := restr_key (by rw [hm]; rfl)
    rw [← this, hm]; exact h
  · cases h
theorem loadV_restr {L : Nat → Bool} {m : Mem} {n : Nat} {ag : Bool} {x : AV} {r : Prop × AV} (h : loadV (restr L m) n ag x = some r) : loadV m n ag x = some r := by
  unfold loadV at h ⊢
  split at h <;> try cases h
  split at h
  · rename_i hm
    have := restr_key (by rw [hm]; rfl)
    rw [← this, hm]; exact h
  · cases h

/-- Does 'm' hold all that 'm0' has alive? -/
theorem val_restr {env : Env} {L : Nat → Bool} {m : Mem} {i : AI} {r : Prop × AV} (h : i.val env (restr L m) = some r) : i.val env m = some r := by
  have key : ∀ id, (restr L m id).live = true → restr L m id = m id := fun id hl => by
    unfold restr at hl ⊢
    cases hb : L id with
    | false => rw [hb] at hl; cases hl
    | true => rfl
  cases i <;> simp only [AI.val] at h ⊢ <;> try exact h
  case nilck x =>
    split at h <;> try exact h
    rename_i id ver o e
    split at h
    · rename_i v' cs hm
      have := key id (by rw [hm]; rfl)
      rw [← this, hm]; exact h
    · cases h
  case len x =>
    split at h <;> try first | exact h | exact lenV_restr h
    rename_i id ver n e
    split at h
    · rename_i hm
      have := key id (by rw [hm]; rfl)
      rw [← this, hm]; exact h
    · cases h
  case fld off x =>
    split at h <;> try first | exact h | exact fldV_restr h
    · rename_i id ver n e
      split at h
      · rename_i hm
        have := key id (by rw [hm]; rfl)
        rw [← this, hm]; exact h
      · cases h
    · rename_i id ver j n e
      split at h
      · rename_i hm
        have := key id (by rw [hm]; rfl)
        rw [← this, hm]; exact h
      · cases h
  case idx sz x i =>
    split at h <;> try first | exact h | exact idxV_restr h
    rename_i id ver n k j e1 e2
    split at h
    · rename_i hm
      have := key id (by rw [hm]; rfl)
      rw [← this, hm]; exact h
    · cases h
  case aidx sz len x i =>
    simp only [aidxV] at h ⊢
    split at h <;> try exact h
    split at h <;> try exact h
    · rename_i id ver o e1
      split at h
      · rename_i hm
        have := key id (by rw [hm]; rfl)
        rw [← this, hm]; exact h
      · cases h
    · rename_i id ver q o e1
      split at h
      · rename_i hm
        have := key id (by rw [hm]; rfl)
        rw [← this, hm]; exact h
      · cases h
  case load n ag x =>
    split at h <;> try first | exact h | exact loadV_restr h
    · rename_i id ver o e
      split at h
      · rename_i hm
        have := key id (by rw [hm]; rfl)
        rw [← this, hm]; exact h
      · cases h
    · rename_i id ver j o e
      split at h
      · rename_i hm
        have := key id (by rw [hm]; rfl)
        rw [← this, hm]; exact h
      · cases h
  case lku ok d k x kk =>
    split at h <;> try exact h
    rename_i id ver kv e1 e2
    split at h
    · rename_i hm
      have := key _ (by rw [hm]; rfl)
      rw [← this, hm]; exact h
    · cases h
  case pnil ng x =>
    split at h <;> try exact h
    rename_i id ver n e
    split at h
    · rename_i hm
      have := key id (by rw [hm]; rfl)
      rw [← this, hm]; exact h
    · cases h
  case slc sz x lo hi =>
    split at h <;> try exact h
    rename_i id ver n e
    split at h
    · rename_i hm
      have := key id (by rw [hm]; rfl)
      rw [← this, hm]; exact h
    · cases h

theorem qval_restr {o : AOp} {env : Env} {L : Nat → Bool} {m : Mem} {r : Prop × AV} (h : o.qval env (restr L m) = some r) : o.qval env m = some r := by
  unfold AOp.qval at *
  split at h
  · split at h
    · exact val_restr h
    · split at h
      · split at h
        · exact val_restr h
        · exact val_restr h
        · exact h
      · exact h
      · cases h
  · cases h

def AOp.isV (o : AOp) : Bool := match o.si with | .v _ => true | _ => false

/-- The schedule l of a region: what turns nothing is taken as soon as it may come up; what turns something comes alone. 'b' (past the end, if there is none): an operation that all others come before. L: the objects that are read out of turn. -/
def aSched (P : Program) (al : List AOp) (b : Nat) (L : Nat → Bool) (m0 : Mem) (K : Env → Mem → Prop) : List Nat → Env → Mem → Prop
  | [], env, mem => K env mem
  | i :: l, env, mem => match al[i]? with
    | none => False
    | some o => bif o.isV then
        match o.qval env (restr L m0) with
        | some (c, v) => c ∧ aSched P al b L m0 K l (putO o.dst v env) mem
        | none => False
      else o.wp P env mem fun e m => (bif Nat.beq i b then True else Agree L m0 m) ∧ aSched P al b L m0 K l e m

def freeB (al : List AOp) (deps : List (List Nat)) (listed : List Bool) (i : Nat) (o : AOp) : Bool :=
  (List.range al.length).all fun j => Nat.beq j i || listed.getD j true || (deps.getD j []).any (Nat.beq i) || (match al[j]? with | some oj => o.apart oj | none => true)

/-- A plain move: it reads no memory. -/
def AOp.mvB (o : AOp) : Bool := match o.guard, o.si with
  | none, .v (.mv _) => true
  | _, _ => false
theorem AOp.mvB_of {o : AOp} (h : o.mvB = true) : ∃ d x, o = ⟨d, none, .v (.mv x)⟩ := by
  obtain ⟨d, g, si⟩ := o
  cases g with
  | some g => simp [AOp.mvB] at h
  | none =>
    cases si with
    | v i => cases i <;> simp [AOp.mvB] at h; exact ⟨_, _, rfl⟩
    | _ => simp [AOp.mvB] at h
def schedB (al : List AOp) (deps : List (List Nat)) (b : Nat) : List Nat → List Bool → Bool
  | [], listed => (readyA deps listed).isEmpty
  | i :: l, listed => (match al[i]? with
    | none => false
    | some o => bif o.isV then ((readyA deps listed).any (Nat.beq i) && freeB al deps listed i o && (Nat.ble deps.length b || (lateB deps listed i deps.length b && !(Nat.beq i b))) && !(listed.getD b false)) || (o.mvB && match readyA deps listed with | [j] => Nat.beq i j | _ => false)
      else (match readyA deps listed with | [j] => Nat.beq i j | _ => false)) && schedB al deps b l (listed.set i true)

theorem aAny_sched {P : Program} {al : List AOp} {deps : List (List Nat)} {b : Nat} {L : Nat → Bool} {m0 : Mem} {K : Env → Mem → Prop} (hal : al.length = deps.length) :
    ∀ (l : List Nat) (listed : List Bool) (env : Env) (mem : Mem), schedB al deps b l listed = true → listed.length = deps.length → (listed.getD b false = true ∨ Agree L m0 mem) → aSched P al b L m0 K l env mem →
      aAny P al deps (fun ls m => ls.getD b false = true ∨ Agree L m0 m) K l.length listed env mem
  | [], listed, env, mem, hB, hlen, hS, h => by
    simp only [schedB, List.isEmpty_iff] at hB
    exact ⟨hB, h⟩
  | i :: l, listed, env, mem, hB, hlen, hS, h => by
    simp only [schedB, Bool.and_eq_true] at hB
    obtain ⟨hB1, hB2⟩ := hB
    simp only [aSched] at h
    cases hi : al[i]? with
    | none => rw [hi] at h; exact h.elim
    | some o =>
      rw [hi] at h hB1
      simp only at h hB1
      cases hv : o.isV with
      | true =>
        rw [hv] at h hB1
        simp only [cond_true, Bool.and_eq_true, Bool.or_eq_true, Bool.not_eq_true'] at h hB1
        rcases hB1 with hB1 | ⟨hmv, hB1⟩
        case inr =>
          obtain ⟨d, x, rfl⟩ := AOp.mvB_of hmv
          have hr : readyA deps listed = [i] := by
            split at hB1
            · rename_i j hj
              rw [hj, Nat.eq_of_beq_eq_true hB1]
            · cases hB1
          refine ⟨fun e => (by rw [hr] at e; cases e), fun j hj => ?_⟩
          rw [hr] at hj
          simp only [List.mem_singleton] at hj
          subst hj
          have hS' : (listed.set j true).getD b false = true ∨ Agree L m0 mem := hS.imp (fun hb => by
            rw [List.getD_eq_getElem?_getD, List.getElem?_set] at *
            split
            · rename_i e
              subst e
              split
              · rfl
              · rename_i hge
                rw [List.getElem?_eq_none (by omega)] at hb; cases hb
            · exact hb) id
          exact ⟨_, hi, trivial, hS', aAny_sched hal l _ _ _ hB2 (by simpa using hlen) hS' h.2⟩
        obtain ⟨⟨⟨c1, c2⟩, c3⟩, c4⟩ := hB1
        have hA : Agree L m0 mem := hS.resolve_left (by rw [c4]; simp)
        split at h
        · rename_i c v hq
          obtain ⟨hc, hrest⟩ := h
          have hri : i ∈ readyA deps listed := by
            obtain ⟨j, hj, e⟩ := List.any_eq_true.1 c1
            have := Nat.eq_of_beq_eq_true e
            rw [this]; exact hj
          refine aAny_first hi l.length listed env mem ?_ c4 hlen hri (fun m hm => ?_) hA (fun j oj hj hji hun hno => ?_) (aAny_sched hal l _ _ _ hB2 (by simpa using hlen) (.inr hA) hrest)
          · rcases c3 with c3 | c3
            · exact .inl (Nat.le_of_ble_eq_true c3)
            · exact .inr ⟨late_of c3.1, ne_of_beq_false c3.2⟩
          · refine ⟨c, qval_restr (L := L) ?_, hc⟩
            rw [restr_agree hm]; exact hq
          · have := List.all_eq_true.1 c2 j (List.mem_range.2 (List.getElem?_eq_some_iff.1 hj).1)
            simp only [Bool.or_eq_true] at this
            rcases this with ((h1 | h1) | h1) | h1
            · exact absurd (Nat.eq_of_beq_eq_true h1) hji
            · rw [hun] at h1; cases h1
            · exfalso
              obtain ⟨k, hk, e⟩ := List.any_eq_true.1 h1
              have := Nat.eq_of_beq_eq_true e
              rw [← this] at hk
              exact hno hk
            · rw [hj] at h1; exact h1
        · exact h.elim
      | false =>
        rw [hv] at h hB1
        simp only [cond_false] at h hB1
        have hr : readyA deps listed = [i] := by
          split at hB1
          · rename_i j hj
            rw [hj, Nat.eq_of_beq_eq_true hB1]
          · cases hB1
        refine ⟨fun e => (by rw [hr] at e; cases e), fun j hj => ?_⟩
        rw [hr] at hj
        simp only [List.mem_singleton] at hj
        subst hj
        refine ⟨o, hi, AOp.wp_mono h fun e m ⟨hA, hrest⟩ => ?_⟩
        have hlt : j < listed.length := by
          have : j ∈ readyA deps listed := by rw [hr]; simp
          have := (mem_readyA.1 this).1; omega
        have hS' : (listed.set j true).getD b false = true ∨ Agree L m0 m := by
          cases hb : Nat.beq j b with
          | true =>
            have := Nat.eq_of_beq_eq_true hb
            subst this
            exact .inl (by simp [List.getD_eq_getElem?_getD, hlt])
          | false => rw [hb] at hA; exact .inr hA
        exact ⟨hS', aAny_sched hal l _ _ _ hB2 (by simpa using hlen) hS' hrest⟩

/-! ### code -/
inductive AX where
  | normal
  | exit (id : Nat)
  | ret

inductive AC where
  | skip
  | ret
  | exit (id : Nat)
  | ops (l : List AOp)
  | any (al : List AOp) (deps : List (List Nat))
  | seq (a b : AC)
  | cond (c : Opd) (a b : AC)
  | block (id : Nat) (a : AC)
  | loop (a : AC)

/-- Another way to see the same state: whatever stands behind the first stands behind the second. -/
def Shift (e : Env) (m : Mem) (e' : Env) (m' : Mem) : Prop := ∀ (X Y : Nat → Prop) (w0 w : World) (bl : Nat → Loc) (t : Nat → Value), WS X Y w0 w bl m → (∀ k, VV w (Fr X w bl m) bl m (t k) (e k)) →
  ∃ bl', WS X Y w0 w bl' m' ∧ (∀ k, VV w (Fr X w bl' m') bl' m' (t k) (e' k)) ∧ (∀ b, Fr X w bl m b → Fr X w bl' m' b) ∧ Later m m' bl bl'
theorem Shift.refl (e : Env) (m : Mem) : Shift e m e m := fun _ _ _ _ bl _ h1 h2 => ⟨bl, h1, h2, fun _ h => h, Later.refl _ _⟩
theorem ST.shift {N : Nat} {X Y : Nat → Prop} {w0 w1 w : World} {bl1 : Nat → Loc} {mem1 : Mem} {a : Act} {env e' : Env} {mem m' : Mem} (h : ST N X Y w0 w1 bl1 mem1 a w env mem) (hs : Shift env mem e' m') : ST N X Y w0 w1 bl1 mem1 a w e' m' := by
  obtain ⟨h1, h2, bl, hw, hv, hF, hL⟩ := h
  obtain ⟨bl', g1, g2, g3, g4⟩ := hs X Y w0 w bl _ hw hv
  exact ⟨h1, h2, bl', g1, g2, fun b hb => ⟨g3 b (hF b hb).1, (hF b hb).2⟩, hL.trans g4⟩

def awp (P : Program) : AC → (AX → Env → Mem → Prop) → Env → Mem → Prop
  | .skip, Q, env, mem => Q .normal env mem
  | .ret, Q, env, mem => Q .ret env mem
  | .exit id, Q, env, mem => Q (.exit id) env mem
  | .ops l, Q, env, mem => awpL P (Q .normal) l env mem
  | .any al deps, Q, env, mem => ∃ S, aAny P al deps S (Q .normal) al.length (List.replicate al.length false) env mem
  | .seq a b, Q, env, mem => awp P a (fun x e m => match x with | .normal => awp P b Q e m | x => Q x e m) env mem
  | .cond c a b, Q, env, mem => match c.ev env with
    | .bool t => match t with
      | true => awp P a Q env mem
      | false => awp P b Q env mem
    | _ => False
  | .block id a, Q, env, mem => awp P a (fun x e m => match x with | .exit j => (bif Nat.beq j id then Q .normal e m else Q (.exit j) e m) | x => Q x e m) env mem
  | .loop a, Q, env, mem => ∃ I : Nat → Env → Mem → Prop, (∃ n e m, Shift env mem e m ∧ I n e m) ∧ ∀ n e m, I n e m → awp P a (fun x e' m' => match x with | .normal => ∃ n' e2 m2, n' < n ∧ Shift e' m' e2 m2 ∧ I n' e2 m2 | x => Q x e' m') e m

theorem awp_mono {P : Program} : ∀ (c : AC) {Q Q' : AX → Env → Mem → Prop} {env : Env} {mem : Mem}, awp P c Q env mem → (∀ x e m, Q x e m → Q' x e m) → awp P c Q' env mem
  | .skip, Q, Q', env, mem, h, hq => hq _ _ _ h
  | .ret, Q, Q', env, mem, h, hq => hq _ _ _ h
  | .exit id, Q, Q', env, mem, h, hq => hq _ _ _ h
  | .ops l, Q, Q', env, mem, h, hq => by
    have key : ∀ (l : List AOp) (env : Env) (mem : Mem), awpL P (Q .normal) l env mem → awpL P (Q' .normal) l env mem := fun l => by
      induction l with
      | nil => exact fun env mem h => hq _ _ _ h
      | cons o l ih => exact fun env mem h => AOp.wp_mono h fun e m => ih e m
    exact key l env mem h
  | .any al deps, Q, Q', env, mem, ⟨S, h⟩, hq => by
    have key : ∀ (f : Nat) (ls : List Bool) (env : Env) (mem : Mem), aAny P al deps S (Q .normal) f ls env mem → aAny P al deps S (Q' .normal) f ls env mem := fun f => by
      induction f with
      | zero => exact fun ls env mem h => ⟨h.1, hq _ _ _ h.2⟩
      | succ f ih => exact fun ls env mem h => ⟨fun e => hq _ _ _ (h.1 e), fun i hi => by
          obtain ⟨o, ho, hw⟩ := h.2 i hi
          exact ⟨o, ho, AOp.wp_mono hw fun e m hh => ⟨hh.1, ih _ _ _ hh.2⟩⟩⟩
    exact ⟨S, key _ _ env mem h⟩
  | .seq a b, Q, Q', env, mem, h, hq => awp_mono a h fun x e m hx => by
    cases x with
    | normal => exact awp_mono b hx hq
    | exit id => exact hq _ _ _ hx
    | ret => exact hq _ _ _ hx
  | .cond c a b, Q, Q', env, mem, h, hq => by
    simp only [awp] at h ⊢
    split at h
    · split at h
      · exact awp_mono a h hq
      · exact awp_mono b h hq
    · exact h
  | .block id a, Q, Q', env, mem, h, hq => awp_mono a h fun x e m hx => by
    cases x with
    | normal => exact hq _ _ _ hx
    | exit j =>
      simp only at hx ⊢
      cases hb : Nat.beq j id with
      | true => rw [hb] at hx; exact hq _ _ _ hx
      | false => rw [hb] at hx; exact hq _ _ _ hx
    | ret => exact hq _ _ _ hx
  | .loop a, Q, Q', env, mem, ⟨I, h0, h1⟩, hq => ⟨I, h0, fun n e m hI => awp_mono a (h1 n e m hI) fun x e' m' hx => by
    cases x with
    | normal => exact hx
    | exit id => exact hq _ _ _ hx
    | ret => exact hq _ _ _ hx⟩

def depsOf (ops : Array Oper) : List (List Nat) := ops.toList.map fun o => (o.after.toList.filter (Region.binds .any)).map (·.on)

def compC (P : Program) (B N : Nat) : Code → Option AC
  | .skip => some .skip
  | .ret => some .ret
  | .exit id => some (.exit id)
  | .region _ ops false => (compL P B N ops ops.toList).map .ops
  | .region _ ops true => (compL P B N ops ops.toList).map fun al => .any al (depsOf ops)
  | .seq a b => match compC P B N a, compC P B N b with
    | some x, some y => some (.seq x y)
    | _, _ => none
  | .cond c a b => match compC P B N a, compC P B N b with
    | some x, some y => some (.cond (Opd.of c) x y)
    | _, _ => none
  | .block id a => (compC P B N a).map (.block id)
  | .loop a => (compC P B N a).map .loop
  | _ => none

end Go.Ab
