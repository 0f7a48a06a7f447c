/- Regions whose order Go leaves open. -/
import Derived.Test.YtiecnmojbdogfaaFwJ
set_option linter.unusedSimpArgs false
set_option linter.unusedVariables false
namespace Go.Ab
open Go

/-! ### what an instruction reads -/
def AI.reads : AI → List Opd
  | .mv x | .nilck x | .not x | .neg x | .bnot x | .conv _ x | .cp x | .len x | .slen x | .fld _ x | .load _ _ x | .fieldv _ _ _ x | .ext _ x | .pnil _ x => [x]
  | .pick c a b => [c, a, b]
  | .aeq _ _ x y | .lku _ _ _ x y | .bin _ x y | .sbin _ x y | .beq _ x y | .idx _ x y | .aidx _ _ x y | .avx _ x y | .sidx x y | .mx x y | .mn x y => [x, y]
  | .build _ ps => ps.map fun p => p.2.2
  | .mkfn _ cs => cs
  | .slc _ x lo hi | .sslc x lo hi => x :: (lo.toList ++ hi.toList)

def EI.reads : EI → List Opd
  | .store _ p v => [p, v]
  | .alloc _ _ => []
  | .box _ _ v => [v]
  | .lit _ _ _ _ _ ps => ps.map fun p => p.2
  | .make _ _ _ _ _ l c => [l, c]
  | .app _ _ _ _ x y => [x, y]
  | .appz _ _ _ _ _ x y => [x, y]
  | .mkmap _ _ _ => []
  | .mapup _ _ x k v => [x, k, v]
  | .strb x => [x]
  | .clr z x => [x]
  | .range _ x => [x]
  | .entry x => [x]
  | .bstr x => [x]
  | .slca _ x => [x]

def SI.reads : SI → List Opd
  | .v i => i.reads
  | .e i => i.reads
  | .call f as => f :: as
  | .isnil _ x => [x]
  | .next x => [x]
  | .bad => []

/-- Does it read slot d? -/
def AOp.looks (o : AOp) (d : Nat) : Bool :=
  (o.si.reads.any fun x => match x with | .t k => Nat.beq k d | .c _ => false) || (match o.guard with | some (g, _) => Nat.beq g d | none => false)

def dstEq : Option Nat → Option Nat → Bool
  | some a, some b => Nat.beq a b
  | _, _ => false

/-- Neither looks at what the other writes, and they write apart. -/
def AOp.apart (x y : AOp) : Bool :=
  (match x.dst with | some d => !(y.looks d) | none => true) && (match y.dst with | some d => !(x.looks d) | none => true) && !(dstEq x.dst y.dst)

theorem bound_congr {env env' : Env} {x : Option Opd} {d : Int} (h : ∀ y ∈ x.toList, y.ev env' = y.ev env) : bound env' x d = bound env x d := by
  cases x with
  | none => rfl
  | some o => simp only [bound]; rw [h o (by simp)]

theorem fillA_congr {env env' : Env} : ∀ (ps : List (Nat × Nat × Opd)) (cs : List AV), (∀ x ∈ ps.map (fun p => p.2.2), x.ev env' = x.ev env) → fillA env' ps cs = fillA env ps cs
  | [], cs, _ => rfl
  | (off, n, x) :: rest, cs, h => by
    simp only [fillA]
    rw [h x (by simp), fillA_congr rest _ (fun y hy => h y (by simp only [List.map_cons, List.mem_cons]; exact .inr hy))]

theorem AI.val_congr {env env' : Env} {mem : Mem} {i : AI} (h : ∀ x ∈ i.reads, x.ev env' = x.ev env) : i.val env' mem = i.val env mem := by
  cases i <;> simp only [AI.reads, List.mem_cons, List.not_mem_nil, or_false, forall_eq_or_imp, forall_eq] at h <;> simp only [AI.val]
  case build z ps => rw [fillA_congr ps z h]
  case mkfn f cs => rw [List.map_congr_left h]
  case slc sz x lo hi =>
    obtain ⟨h1, h2⟩ := h
    rw [h1, bound_congr (x := lo) (fun y hy => h2 y (by simp only [List.mem_append]; exact .inl hy))]
    simp only [bound_congr (x := hi) (fun y hy => h2 y (by simp only [List.mem_append]; exact .inr hy))]
  case sslc x lo hi =>
    obtain ⟨h1, h2⟩ := h
    rw [h1, bound_congr (x := lo) (fun y hy => h2 y (by simp only [List.mem_append]; exact .inl hy))]
    simp only [bound_congr (x := hi) (fun y hy => h2 y (by simp only [List.mem_append]; exact .inr hy))]
  all_goals first | rw [h] | (obtain ⟨h1, h2⟩ := h; rw [h1, h2]) | (obtain ⟨h1, h2, h3⟩ := h; rw [h1, h2, h3])

theorem litA_congr {env env' : Env} {sz : Nat} : ∀ (ps : List (Nat × Opd)) (es : List AV) (mem : Mem), (∀ x ∈ ps.map (fun p => p.2), x.ev env' = x.ev env) → litA env' sz ps es mem = litA env sz ps es mem
  | [], es, mem, _ => rfl
  | (i, x) :: rest, es, mem, h => by
    simp only [litA]
    rw [h x (by simp)]
    have ih := fun es mem => litA_congr (env := env) (env' := env') (sz := sz) rest es mem (fun y hy => h y (by simp only [List.map_cons, List.mem_cons]; exact .inr hy))
    simp only [ih]

theorem EI.run_congr {env env' : Env} {mem : Mem} {i : EI} (h : ∀ x ∈ i.reads, x.ev env' = x.ev env) : i.run env' mem = i.run env mem := by
  cases i <;> simp only [EI.reads, List.mem_cons, List.not_mem_nil, or_false, forall_eq_or_imp, forall_eq] at h <;> simp only [EI.run]
  case lit site e sz len z ps =>
    cases len with
    | zero => rfl
    | succ n => simp only [litA_congr ps _ _ h]
  all_goals first | rfl | rw [h] | (obtain ⟨h1, h2⟩ := h; rw [h1, h2]) | (obtain ⟨h1, h2, h3⟩ := h; rw [h1, h2, h3])

theorem ev_put {x : Opd} {d : Option Nat} {v : AV} {env : Env} (h : ∀ k, d = some k → x ≠ .t k) : x.ev (putO d v env) = x.ev env := by
  cases x with
  | c v => rfl
  | t k =>
    simp only [Opd.ev, putO_at]
    rw [if_neg (fun e => h k e rfl)]

theorem looks_false {o : AOp} {d : Nat} (h : o.looks d = false) : (∀ x ∈ o.si.reads, x ≠ .t d) ∧ (∀ g w, o.guard = some (g, w) → g ≠ d) := by
  simp only [AOp.looks, Bool.or_eq_false_iff] at h
  refine ⟨fun x hx e => ?_, fun g w hg e => ?_⟩
  · have := List.any_eq_false.1 h.1 x hx
    rw [e] at this
    simp at this
  · rw [hg] at h
    simp only at h
    exact ne_of_beq_false h.2 e

theorem AOp.wp_put {P : Program} {o : AOp} {d : Option Nat} {v : AV} {env : Env} {mem : Mem} {K : Env → Mem → Prop} (hl : ∀ k, d = some k → o.looks k = false) (hd : ∀ k, d = some k → o.dst ≠ some k)
    (h : o.wp P (putO d v env) mem K) : o.wp P env mem (fun e m => K (putO d v e) m) := by
  have hcomm : ∀ u, putO o.dst u (putO d v env) = putO d v (putO o.dst u env) := fun u => by
    funext k
    rw [putO_at, putO_at, putO_at, putO_at]
    by_cases e1 : o.dst = some k
    · rw [if_pos e1, if_neg (fun e => hd k e e1), if_pos e1]
    · rw [if_neg e1, if_neg e1]
  have hr : ∀ x ∈ o.si.reads, x.ev (putO d v env) = x.ev env := fun x hx => ev_put fun k hk => (looks_false (hl k hk)).1 x hx
  have hact : ∀ {K : Env → Mem → Prop}, o.act P (putO d v env) mem K → o.act P env mem (fun e m => K (putO d v e) m) := fun {K} h => by
    unfold AOp.act at *
    cases hsi : o.si with
    | v i =>
      rw [hsi] at h hr
      simp only at h ⊢
      rw [AI.val_congr hr] at h
      cases hval : i.val env mem with
      | none => rw [hval] at h; exact h
      | some r => rw [hval] at h; exact ⟨h.1, by rw [← hcomm]; exact h.2⟩
    | e i =>
      rw [hsi] at h hr
      simp only at h ⊢
      rw [EI.run_congr hr] at h
      cases hval : i.run env mem with
      | none => rw [hval] at h; exact h
      | some r => rw [hval] at h; exact ⟨h.1, by rw [← hcomm]; exact h.2⟩
    | call f as =>
      rw [hsi] at h hr
      simp only at h ⊢
      rw [hr f (by simp [SI.reads])] at h
      cases hf : f.ev env with
      | fn g caps =>
        rw [hf] at h
        simp only at h ⊢
        have e1 : as.map (Opd.ev (putO d v env)) = as.map (Opd.ev env) := List.map_congr_left fun x hx => hr x (by simp [SI.reads, hx])
        rw [e1] at h
        exact h.mono fun r m hK => by rw [← hcomm]; exact hK
      | _ => rw [hf] at h; exact h
    | isnil ng x =>
      rw [hsi] at h hr
      simp only at h ⊢
      rw [hr x (by simp [SI.reads])] at h
      cases hf : x.ev env with
      | fs n f =>
        rw [hf] at h
        exact fun b hb => by rw [← hcomm]; exact h b hb
      | cap0 =>
        rw [hf] at h
        rw [← hcomm]; exact h
      | sl id ver n =>
        rw [hf] at h
        simp only at h ⊢
        split at h
        · exact ⟨h.1, fun b hb => by rw [← hcomm]; exact h.2 b hb⟩
        · exact h.elim
      | _ => rw [hf] at h; exact h
    | next x =>
      rw [hsi] at h hr
      simp only at h ⊢
      rw [hr x (by simp [SI.reads])] at h
      cases hf : x.ev env with
      | it id ver =>
        rw [hf] at h
        simp only at h ⊢
        split at h
        · exact ⟨h.1, fun k => by rw [← hcomm]; exact h.2.1 k, fun key hk => by rw [← hcomm]; exact h.2.2 key hk⟩
        · exact h.elim
      | _ => rw [hf] at h; exact h
    | bad => rw [hsi] at h; exact h
  unfold AOp.wp at *
  cases hg : o.guard with
  | none => rw [hg] at h; exact hact h
  | some gw =>
    obtain ⟨g, want⟩ := gw
    rw [hg] at h
    simp only at h ⊢
    have eg : putO d v env g = env g := by
      rw [putO_at, if_neg (fun e => (looks_false (hl g e)).2 g want hg rfl)]
    rw [eg] at h
    cases hb : env g with
    | bool b =>
      rw [hb] at h
      cases b <;> cases want <;> simp only at h ⊢ <;> first | exact hact h | (rw [← hcomm]; exact h)
    | tup cs =>
      rw [hb] at h
      cases cs with
      | nil => simp only at h ⊢; rw [← hcomm]; exact h
      | cons c cs => exact h
    | _ => rw [hb] at h; exact h

/-! ### an operation that turns nothing -/
def AOp.qval (o : AOp) (env : Env) (mem : Mem) : Option (Prop × AV) :=
  match o.si with
  | .v i => match o.guard with
    | none => i.val env mem
    | some (d, want) => match env d with
      | .bool b => match b, want with
        | true, true => i.val env mem
        | false, false => i.val env mem
        | _, _ => some (True, .tup [])
      | .tup [] => some (True, .tup [])
      | _ => none
  | _ => none

theorem AOp.wp_of_qval {P : Program} {o : AOp} {env : Env} {mem : Mem} {K : Env → Mem → Prop} {c : Prop} {v : AV} (h : o.qval env mem = some (c, v)) (hc : c) (hK : K (putO o.dst v env) mem) : o.wp P env mem K := by
  unfold AOp.qval at h
  unfold AOp.wp AOp.act
  split at h
  · rename_i i hsi
    rw [hsi]
    split at h
    · rename_i hg
      rw [hg]
      simp only
      rw [h]
      exact ⟨hc, hK⟩
    · rename_i d want hg
      rw [hg]
      simp only
      split at h
      · rename_i b hb
        rw [hb]
        cases b <;> cases want <;> simp only at h ⊢
        · rw [h]; exact ⟨hc, hK⟩
        · cases h; exact hK
        · cases h; exact hK
        · rw [h]; exact ⟨hc, hK⟩
      · rename_i hb
        rw [hb]
        cases h
        exact hK
      · cases h
  · cases h

theorem AOp.qval_put {o : AOp} {d : Option Nat} {v : AV} {env : Env} {mem : Mem} (hl : ∀ k, d = some k → o.looks k = false) : o.qval (putO d v env) mem = o.qval env mem := by
  unfold AOp.qval
  cases hsi : o.si with
  | v i =>
    have hr : ∀ x ∈ i.reads, x.ev (putO d v env) = x.ev env := fun x hx => ev_put fun k hk => (looks_false (hl k hk)).1 x (by rw [hsi]; exact hx)
    simp only [AI.val_congr hr]
    cases hg : o.guard with
    | none => rfl
    | some gw =>
      obtain ⟨g, want⟩ := gw
      have eg : putO d v env g = env g := by rw [putO_at, if_neg (fun e => (looks_false (hl g e)).2 g want hg rfl)]
      simp only [eg]
  | _ => rfl

/-! ### any order -/
def readyA (deps : List (List Nat)) (listed : List Bool) : List Nat :=
  (List.range deps.length).filter fun i => !(listed.getD i true) && (deps.getD i []).all fun j => listed.getD j false

def aAny (P : Program) (al : List AOp) (deps : List (List Nat)) (S : List Bool → Mem → Prop) (K : Env → Mem → Prop) : Nat → List Bool → Env → Mem → Prop
  | 0, listed, env, mem => readyA deps listed = [] ∧ K env mem
  | f + 1, listed, env, mem => (readyA deps listed = [] → K env mem) ∧ ∀ i, i ∈ readyA deps listed → ∃ o, al[i]? = some o ∧ o.wp P env mem fun e m => S (listed.set i true) m ∧ aAny P al deps S K f (listed.set i true) e m

theorem mem_readyA {deps : List (List Nat)} {listed : List Bool} {i : Nat} : i ∈ readyA deps listed ↔ i < deps.length ∧ listed.getD i true = false ∧ ∀ j ∈ deps.getD i [], listed.getD j false = true := by
  simp only [readyA, List.mem_filter, List.mem_range, Bool.and_eq_true, Bool.not_eq_true', List.all_eq_true]

theorem getD_set_ne' {l : List Bool} {i j : Nat} {b d : Bool} (h : i ≠ j) : (l.set i b).getD j d = l.getD j d := by
  simp [List.getD_eq_getElem?_getD, List.getElem?_set_ne h]

theorem readyA_mono {deps : List (List Nat)} {listed : List Bool} {i j : Nat} (hj : j ∈ readyA deps listed) (hji : j ≠ i) : j ∈ readyA deps (listed.set i true) := by
  obtain ⟨h1, h2, h3⟩ := mem_readyA.1 hj
  refine mem_readyA.2 ⟨h1, by rw [getD_set_ne' (Ne.symm hji)]; exact h2, fun k hk => ?_⟩
  have := h3 k hk
  by_cases e : i = k
  · subst e
    have hlt : i < listed.length := by
      rcases Nat.lt_or_ge i listed.length with h | h
      · exact h
      · simp [List.getD_eq_getElem?_getD, List.getElem?_eq_none h] at this
    simp [List.getD_eq_getElem?_getD, hlt]
  · rw [getD_set_ne' e]; exact this

/-- A chain of operations that have not come up leads from k down to i. -/
inductive Late (deps : List (List Nat)) (listed : List Bool) (i : Nat) : Nat → Prop
  | base : Late deps listed i i
  | step {b k : Nat} : k ∈ deps.getD b [] → listed.getD k false = false → Late deps listed i k → Late deps listed i b
theorem Late.set {deps : List (List Nat)} {listed : List Bool} {i j : Nat} (hji : j ≠ i) (hall : ∀ k, k ∈ deps.getD j [] → listed.getD k false = true) {b : Nat} (h : Late deps listed i b) : Late deps (listed.set j true) i b := by
  induction h with
  | base => exact .base
  | step h1 h2 h3 ih =>
    refine .step h1 ?_ ih
    rename_i b k
    have hjk : j ≠ k := fun e => by
      subst e
      cases h3 with
      | base => exact hji rfl
      | step h4 h5 _ => have := hall _ h4; rw [h5] at this; cases this
    rw [getD_set_ne' hjk]; exact h2
def lateB (deps : List (List Nat)) (listed : List Bool) (i : Nat) : Nat → Nat → Bool
  | 0, k => Nat.beq k i
  | n + 1, k => Nat.beq k i || (deps.getD k []).any fun j => !(listed.getD j false) && lateB deps listed i n j
theorem late_of {deps : List (List Nat)} {listed : List Bool} {i : Nat} : ∀ {n k : Nat}, lateB deps listed i n k = true → Late deps listed i k
  | 0, k, h => by rw [Nat.eq_of_beq_eq_true h]; exact .base
  | n + 1, k, h => by
    simp only [lateB, Bool.or_eq_true, List.any_eq_true, Bool.and_eq_true, Bool.not_eq_true'] at h
    rcases h with h | ⟨j, h1, h2, h3⟩
    · rw [Nat.eq_of_beq_eq_true h]; exact .base
    · exact .step h1 h2 (late_of h3)

/-- An operation that turns nothing, and whose value hangs on no more than S, may be taken first. 'b' comes behind it. -/
theorem aAny_first {P : Program} {al : List AOp} {deps : List (List Nat)} {S0 : Mem → Prop} {K : Env → Mem → Prop} {b i : Nat} {o : AOp} {v : AV} (hi : al[i]? = some o) :
    ∀ (fuel : Nat) (listed : List Bool) (env : Env) (mem : Mem), (deps.length ≤ b ∨ (Late deps listed i b ∧ i ≠ b)) → listed.getD b false = false → listed.length = deps.length → i ∈ readyA deps listed → (∀ m, S0 m → ∃ c, o.qval env m = some (c, v) ∧ c) → S0 mem →
      (∀ j oj, al[j]? = some oj → j ≠ i → listed.getD j true = false → i ∉ deps.getD j [] → o.apart oj = true) →
      aAny P al deps (fun ls m => ls.getD b false = true ∨ S0 m) K fuel (listed.set i true) (putO o.dst v env) mem → aAny P al deps (fun ls m => ls.getD b false = true ∨ S0 m) K (fuel + 1) listed env mem := by
  intro fuel
  induction fuel with
  | zero =>
    intro listed env mem hb hbl hlen hr hy hS hfree H
    refine ⟨fun h => (by rw [h] at hr; cases hr), fun j hj => ?_⟩
    by_cases hji : j = i
    · subst hji
      obtain ⟨c, hq, hc⟩ := hy mem hS
      exact ⟨o, hi, AOp.wp_of_qval hq hc ⟨.inr hS, H⟩⟩
    · have := readyA_mono hj hji
      rw [H.1] at this
      cases this
  | succ fuel ih =>
    intro listed env mem hb hbl hlen hr hy hS hfree H
    refine ⟨fun h => (by rw [h] at hr; cases hr), fun j hj => ?_⟩
    by_cases hji : j = i
    · subst hji
      obtain ⟨c, hq, hc⟩ := hy mem hS
      exact ⟨o, hi, AOp.wp_of_qval hq hc ⟨.inr hS, H⟩⟩
    · obtain ⟨oj, hoj, hwp⟩ := H.2 j (readyA_mono hj hji)
      obtain ⟨hjlt, hjun, hjall⟩ := mem_readyA.1 hj
      obtain ⟨hilt, hiun, hiall⟩ := mem_readyA.1 hr
      have hiun' : listed.getD i false = false := by
        have : i < listed.length := by omega
        simp [List.getD_eq_getElem?_getD, this] at hiun ⊢; exact hiun
      have hnot : i ∉ deps.getD j [] := fun h => by have := hjall i h; rw [hiun'] at this; cases this
      have hap := hfree j oj hoj hji hjun hnot
      simp only [AOp.apart, Bool.and_eq_true, Bool.not_eq_true'] at hap
      obtain ⟨⟨h1, h2⟩, h3⟩ := hap
      have hlj : ∀ k, o.dst = some k → oj.looks k = false := fun k hk => by rw [hk] at h1; simpa using h1
      have hli : ∀ k, oj.dst = some k → o.looks k = false := fun k hk => by rw [hk] at h2; simpa using h2
      have hdd : ∀ k, o.dst = some k → oj.dst ≠ some k := fun k hk hk2 => by rw [hk, hk2] at h3; simp [dstEq] at h3
      have hjb : j ≠ b := fun e => by
        subst e
        rcases hb with hb | hb
        · omega
        · cases hb.1 with
          | base => exact hji rfl
          | step hk1 hk2 _ => have := hjall _ hk1; rw [hk2] at this; cases this
      have hb' : deps.length ≤ b ∨ (Late deps (listed.set j true) i b ∧ i ≠ b) := hb.imp id fun hb => ⟨hb.1.set hji hjall, hb.2⟩
      have hbl' : (listed.set j true).getD b false = false := by rw [getD_set_ne' hjb]; exact hbl
      refine ⟨oj, hoj, ?_⟩
      -- what is put by 'oj' does not touch what 'o' reads
      have key : oj.wp P env mem (fun e m => (∃ u, e = putO oj.dst u env) ∧ (((listed.set i true).set j true).getD b false = true ∨ S0 m) ∧ aAny P al deps (fun ls m => ls.getD b false = true ∨ S0 m) K fuel ((listed.set i true).set j true) (putO o.dst v e) m) := by
        have hw := AOp.wp_put (v := v) hlj hdd hwp
        have hput : ∀ {K' : Env → Mem → Prop}, oj.wp P env mem K' → oj.wp P env mem (fun e m => (∃ u, e = putO oj.dst u env) ∧ K' e m) := fun {K'} h => by
          have hact : oj.act P env mem K' → oj.act P env mem (fun e m => (∃ u, e = putO oj.dst u env) ∧ K' e m) := fun h => by
            unfold AOp.act at *
            split at h
            · split at h
              · exact ⟨h.1, ⟨_, rfl⟩, h.2⟩
              · exact h
            · split at h
              · exact ⟨h.1, ⟨_, rfl⟩, h.2⟩
              · exact h
            · split at h
              · exact h.mono fun r m hk => ⟨⟨_, rfl⟩, hk⟩
              · exact h
            · split at h
              · exact fun b hb => ⟨⟨_, rfl⟩, h b hb⟩
              · exact ⟨⟨_, rfl⟩, h⟩
              · split at h
                · exact ⟨h.1, fun b hb => ⟨⟨_, rfl⟩, h.2 b hb⟩⟩
                · exact h
              · exact h
            · split at h
              · split at h
                · exact ⟨h.1, fun q => ⟨⟨_, rfl⟩, h.2.1 q⟩, fun key q => ⟨⟨_, rfl⟩, h.2.2 key q⟩⟩
                · exact h
              · exact h
            · exact h
          unfold AOp.wp at *
          split at h
          · exact hact h
          · split at h
            · split at h
              · exact hact h
              · exact hact h
              · exact ⟨⟨_, rfl⟩, h⟩
            · exact ⟨⟨_, rfl⟩, h⟩
            · exact h
        exact hput hw
      refine AOp.wp_mono key fun e m ⟨⟨u, hu⟩, hSS, hrest⟩ => ?_
      have hS' : S0 m := by
        rcases hSS with h | h
        · exfalso
          have hib : i ≠ b := fun e => by
            subst e
            rcases hb with hb | hb
            · omega
            · exact hb.2 rfl
          rw [getD_set_ne' hjb, getD_set_ne' hib, hbl] at h
          cases h
        · exact h
      refine ⟨.inr hS', ih (listed.set j true) e m hb' hbl' (by simpa using hlen) (readyA_mono hr (Ne.symm hji)) (fun m' hm' => ?_) hS' (fun k ok hk hki hkun hno => ?_) ?_⟩
      · rw [hu, AOp.qval_put hli]; exact hy m' hm'
      · refine hfree k ok hk hki ?_ hno
        by_cases hjk : j = k
        · subst hjk; exact hjun
        · rw [getD_set_ne' hjk] at hkun; exact hkun
      · rw [List.set_comm _ _ hji]
        exact hrest

end Go.Ab
