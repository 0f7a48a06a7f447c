/- The world behind an abstract state: which blocks are the call's own, which it may read, which it leaves alone. -/
import Derived.Test.YtodncnlnadgkhaaFwA
import Derived.MapKept
set_option linter.unusedSimpArgs false
set_option linter.unusedVariables false
namespace Go.Ab
open Go

def Own (bl : Nat → Loc) (mem : Mem) (b : Nat) : Prop := ∃ i c, (mem i).live = true ∧ bl i = .blk b c
/-- The blocks that are read and not written. -/
def Fr (X : Nat → Prop) (w : World) (bl : Nat → Loc) (mem : Mem) (b : Nat) : Prop := b < w.heap.size ∧ ¬ X b ∧ ¬ Own bl mem b

/-! ### maps: keys are whole numbers or strings, elements whole numbers or truths -/
/-- A struct of whole numbers. -/
def aggInts : List IntKind → List Value → Prop
  | [], [] => True
  | k :: ks, .int k' _ :: vs => k' = k ∧ aggInts ks vs
  | _, _ => False
def MK.isK : MK → Value → Prop
  | .str, .string _ => True
  | .int k, .int k' _ => k' = k
  | .ints ks, .agg vs => aggInts ks vs.toList
  | _, _ => False
def keyEqL : List Value → List Value → Bool
  | [], [] => true
  | .int j a :: r, .int k b :: s => decide (j = k) && decide (a = b) && keyEqL r s
  | _, _ => false
def keyEq : Value → Value → Bool
  | .int j a, .int k b => decide (j = k) && decide (a = b)
  | .string a, .string b => decide (a = b)
  | .bool a, .bool b => decide (a = b)
  | .agg a, .agg b => keyEqL a.toList b.toList
  | _, _ => false
theorem keyEqL_true : ∀ {a b : List Value}, keyEqL a b = true → a = b
  | [], [], _ => rfl
  | [], _ :: _, h => by simp [keyEqL] at h
  | x :: _, [], h => by cases x <;> simp [keyEqL] at h
  | x :: r, y :: s, h => by
    cases x <;> cases y <;> simp only [keyEqL, Bool.false_eq_true, Bool.and_eq_true, decide_eq_true_eq] at h
    obtain ⟨⟨rfl, rfl⟩, h⟩ := h
    rw [keyEqL_true h]
theorem keyEqL_self : ∀ {ks : List IntKind} {a : List Value}, aggInts ks a → keyEqL a a = true
  | [], [], _ => rfl
  | [], _ :: _, h => by simp [aggInts] at h
  | _ :: _, [], h => by simp [aggInts] at h
  | k :: ks, x :: r, h => by
    cases x <;> simp only [aggInts] at h
    simp only [keyEqL, decide_true, Bool.and_self, Bool.true_and]
    exact keyEqL_self h.2
theorem keyEq_true {a b : Value} (h : keyEq a b = true) : a = b := by
  cases a <;> cases b <;> simp_all [keyEq]
  exact Array.toList_inj.1 (keyEqL_true h)
def elV (k : Option IntKind) (n : Int) : Value := match k with | some k => .int k n | none => .bool (n == 1)
def elA (k : Option IntKind) (n : Int) : AV := match k with | some k => .int k n | none => .bool (n == 1)
theorem keyEq_self {d : MK} {a : Value} (h : d.isK a) : keyEq a a = true := by
  cases d <;> cases a <;> simp only [MK.isK] at h <;> simp only [keyEq, decide_true, Bool.and_self]
  exact keyEqL_self h
def MapRep (es : Array MapEntry) (clock : Nat) (d : MK) (k : Option IntKind) (p : Value → Bool) (g : Value → Int) : Prop :=
  MapKept.Stamped es clock ∧ (∀ x ∈ es.toList, d.isK x.key) ∧ (∀ x ∈ es.toList, p x.key = true ∧ x.val = elV k (g x.key)) ∧ (∀ key, p key = true → ∃ x ∈ es.toList, x.key = key) ∧ ∀ key, p key = false → g key = 0

def OO (w : World) (F : Nat → Prop) (bl : Nat → Loc) (mem : Mem) : AO → Loc → Prop
  | .dead _, _ => True
  | .var _ cs, l => ∃ b c arr e, l = .blk b c ∧ w.heap[b]? = some (.cells arr e (0, 0)) ∧ arr.size = cs.length ∧ ∀ j, j < cs.length → VV w F bl mem (arr.getD j undef) (cs.getD j .undef)
  | .row _ e sz n f, l => 0 < sz ∧ ∃ xs, w.ownsRow 0 e sz (slv l n) n xs ∧ ∀ i, i < n → (f i).cells.length = sz ∧ ∀ j, j < sz → FV w F (xs.getD (i * sz + j) undef) ((f i).cells.getD j .undef)
  | .vrow _ e sz n f, l => 0 < sz ∧ ∃ xs, w.ownsRow 0 e sz (slv l n) n xs ∧ ∀ i, i < n → (f i).cells.length = sz ∧ ∀ j, j < sz → VV w F bl mem (xs.getD (i * sz + j) undef) ((f i).cells.getD j .undef)
  | .map _ d k p g, l => ∃ b c es clock, l = .blk b c ∧ w.heap[b]? = some (.map es clock) ∧ MapRep es clock d k p g

structure WS (X Y : Nat → Prop) (w0 w : World) (bl : Nat → Loc) (mem : Mem) : Prop where
  os : w.os = w0.os
  tape : w.tape = w0.tape
  output : w.output = w0.output
  size : w0.heap.size ≤ w.heap.size
  xlt : ∀ b, X b → b < w0.heap.size
  frame : ∀ b, b < w0.heap.size → ¬ Y b → w.heap[b]? = w0.heap[b]?
  obj : ∀ i, OO w (Fr X w bl mem) bl mem (mem i) (bl i)
  inj : ∀ i j b c d, (mem i).live = true → (mem j).live = true → bl i = .blk b c → bl j = .blk b d → i = j
  own : ∀ i b c, (mem i).live = true → bl i = .blk b c → ¬ X b ∧ (Y b ∨ w0.heap.size ≤ b) ∧ b < w.heap.size

def updL (id : Nat) (l : Loc) (bl : Nat → Loc) : Nat → Loc := fun j => bif Nat.beq j id then l else bl j

theorem updL_same (id : Nat) (l : Loc) (bl : Nat → Loc) : updL id l bl id = l := by simp [updL]
theorem updL_ne {j id : Nat} (h : j ≠ id) (l : Loc) (bl : Nat → Loc) : updL id l bl j = bl j := by simp [updL, beq_false_of_ne h]
theorem set_same (id : Nat) (o : AO) (mem : Mem) : Mem.set id o mem id = o := by simp [Mem.set]
theorem set_ne {j id : Nat} (h : j ≠ id) (o : AO) (mem : Mem) : Mem.set id o mem j = mem j := by simp [Mem.set, beq_false_of_ne h]
section
variable {X Y : Nat → Prop} {w0 w w' : World} {bl : Nat → Loc} {mem : Mem}

theorem OO.mono {F F' : Nat → Prop} {bl' : Nat → Loc} {mem' : Mem} {o : AO} {l : Loc} (h : ∀ b, F b → F' b ∧ w'.heap[b]? = w.heap[b]?)
    (hk : Later mem mem' bl bl') (hl : ∀ b c, l = .blk b c → w'.heap[b]? = w.heap[b]?) (ho : OO w F bl mem o l) : OO w' F' bl' mem' o l := by
  cases o with
  | dead => trivial
  | var ver cs =>
    obtain ⟨b, c, arr, e, rfl, hh, hs, hr⟩ := ho
    exact ⟨b, c, arr, e, rfl, by rw [hl b c rfl]; exact hh, hs, fun j hj => (hr j hj).mono h hk⟩
  | row ver e sz n f =>
    obtain ⟨h0, xs, ⟨h1, h2⟩, h3⟩ := ho
    refine ⟨h0, xs, ⟨h1, ?_⟩, fun i hi => ⟨(h3 i hi).1, fun j hj => ((h3 i hi).2 j hj).mono h⟩⟩
    rcases h2 with h2 | ⟨g, cap, cur, hv, hb, hh, r⟩
    · exact .inl h2
    · refine .inr ⟨g, cap, cur, hv, hb, ?_, r⟩
      cases l with
      | none => simp [slv] at hv
      | blk b c =>
        simp only [slv, Value.slice.injEq, Option.some.injEq, Addr.mk.injEq] at hv
        obtain ⟨⟨rfl, _⟩, _, rfl⟩ := hv
        rw [hl b c rfl]; exact hh
  | vrow ver e sz n f =>
    obtain ⟨h0, xs, ⟨h1, h2⟩, h3⟩ := ho
    refine ⟨h0, xs, ⟨h1, ?_⟩, fun i hi => ⟨(h3 i hi).1, fun j hj => ((h3 i hi).2 j hj).mono h hk⟩⟩
    rcases h2 with h2 | ⟨g, cap, cur, hv, hb, hh, r⟩
    · exact .inl h2
    · refine .inr ⟨g, cap, cur, hv, hb, ?_, r⟩
      cases l with
      | none => simp [slv] at hv
      | blk b c =>
        simp only [slv, Value.slice.injEq, Option.some.injEq, Addr.mk.injEq] at hv
        obtain ⟨⟨rfl, _⟩, _, rfl⟩ := hv
        rw [hl b c rfl]; exact hh
  | map ver d k p g =>
    obtain ⟨b, c, es, clock, rfl, hh, hr⟩ := ho
    exact ⟨b, c, es, clock, rfl, by rw [hl b c rfl]; exact hh, hr⟩

/-- One object turns: its cells are written (the version stays), or it is made anew, grows, is let go (the version grows). The block that is written is its own, or a new one. -/
theorem WS.upd (h : WS X Y w0 w bl mem) (id : Nat) (o : AO) (l : Loc) (hver : (mem id).ver ≤ o.ver) (hsame : o.ver = (mem id).ver → Kept (mem id) o ∧ l = bl id)
    (hos : w'.os = w.os) (htp : w'.tape = w.tape) (hout : w'.output = w.output) (hsz : w.heap.size ≤ w'.heap.size)
    (hheap : ∀ b, b < w.heap.size → (∀ c, (mem id).live = true → bl id ≠ .blk b c) → w'.heap[b]? = w.heap[b]?)
    (hnew : ∀ b c, o.live = true → l = .blk b c → (w.heap.size ≤ b ∨ ((mem id).live = true ∧ ∃ c0, bl id = .blk b c0)) ∧ b < w'.heap.size)
    (ho : (∀ b, Fr X w bl mem b → Fr X w' (updL id l bl) (Mem.set id o mem) b ∧ w'.heap[b]? = w.heap[b]?) → Later mem (Mem.set id o mem) bl (updL id l bl) → OO w' (Fr X w' (updL id l bl) (Mem.set id o mem)) (updL id l bl) (Mem.set id o mem) o l) :
    WS X Y w0 w' (updL id l bl) (Mem.set id o mem) ∧ (∀ b, Fr X w bl mem b → Fr X w' (updL id l bl) (Mem.set id o mem) b ∧ w'.heap[b]? = w.heap[b]?) ∧ Later mem (Mem.set id o mem) bl (updL id l bl) := by
  have hk : Later mem (Mem.set id o mem) bl (updL id l bl) := fun j => by
    by_cases e : j = id
    · subst e; rw [set_same, updL_same]; exact ⟨hver, fun g => ⟨(hsame g).1, (hsame g).2⟩⟩
    · rw [set_ne e, updL_ne e]; exact ⟨Nat.le_refl _, fun _ => ⟨Kept.refl _, rfl⟩⟩
  have hF : ∀ b, Fr X w bl mem b → Fr X w' (updL id l bl) (Mem.set id o mem) b ∧ w'.heap[b]? = w.heap[b]? := fun b ⟨h1, h2, h3⟩ => by
    refine ⟨⟨by omega, h2, ?_⟩, hheap b h1 fun c hd hb => h3 ⟨id, c, hd, hb⟩⟩
    rintro ⟨i, c, hi, hb⟩
    by_cases e : i = id
    · subst e
      rw [set_same] at hi
      rw [updL_same] at hb
      rcases (hnew b c hi hb).1 with g | ⟨g, c0, g0⟩
      · omega
      · exact h3 ⟨i, c0, g, g0⟩
    · rw [set_ne e] at hi
      rw [updL_ne e] at hb
      exact h3 ⟨i, c, hi, hb⟩
  refine ⟨⟨hos.trans h.os, htp.trans h.tape, hout.trans h.output, Nat.le_trans h.size hsz, h.xlt, fun b hb hy => ?_, fun i => ?_, fun i j b c d hi hj hbi hbj => ?_, fun i b c hi hb => ?_⟩, hF, hk⟩
  · rw [hheap b (Nat.lt_of_lt_of_le hb h.size) fun c hd hbl => ?_]
    · exact h.frame b hb hy
    · rcases (h.own id b c hd hbl).2.1 with g | g
      · exact hy g
      · omega
  · by_cases e : i = id
    · subst e
      have := ho hF hk
      rw [set_same, updL_same]
      exact this
    · rw [set_ne e, updL_ne e]
      cases hd : (mem i).live with
      | false => cases hm : mem i <;> first | trivial | (rw [hm] at hd; cases hd)
      | true =>
        refine OO.mono hF hk (fun b c hb => ?_) (h.obj i)
        refine hheap b (h.own i b c hd hb).2.2 fun c' hd' hb' => ?_
        exact e (h.inj i id b c c' hd hd' hb hb')
  · by_cases ei : i = id
    · by_cases ej : j = id
      · rw [ei, ej]
      · exfalso
        subst ei
        rw [set_same] at hi; rw [updL_same] at hbi
        rw [set_ne ej] at hj; rw [updL_ne ej] at hbj
        rcases (hnew b c hi hbi).1 with g | ⟨g, c0, g0⟩
        · have := (h.own j b d hj hbj).2.2; omega
        · exact ej (h.inj j i b d c0 hj g hbj g0)
    · by_cases ej : j = id
      · exfalso
        subst ej
        rw [set_same] at hj; rw [updL_same] at hbj
        rw [set_ne ei] at hi; rw [updL_ne ei] at hbi
        rcases (hnew b d hj hbj).1 with g | ⟨g, c0, g0⟩
        · have := (h.own i b c hi hbi).2.2; omega
        · exact ei (h.inj i j b c c0 hi g hbi g0)
      · rw [set_ne ei] at hi; rw [updL_ne ei] at hbi
        rw [set_ne ej] at hj; rw [updL_ne ej] at hbj
        exact h.inj i j b c d hi hj hbi hbj
  · by_cases e : i = id
    · subst e
      rw [set_same] at hi; rw [updL_same] at hb
      obtain ⟨g, hlt⟩ := hnew b c hi hb
      rcases g with g | ⟨g, c0, g0⟩
      · exact ⟨fun hx => by have := h.xlt b hx; have := h.size; omega, .inr (Nat.le_trans h.size g), hlt⟩
      · have k := h.own i b c0 g g0
        exact ⟨k.1, k.2.1, hlt⟩
    · rw [set_ne e] at hi; rw [updL_ne e] at hb
      have k := h.own i b c hi hb
      exact ⟨k.1, k.2.1, Nat.lt_of_lt_of_le k.2.2 hsz⟩

/-- Blocks of nobody's are made, draws are taken: nothing turns. -/
theorem WS.grow (h : WS X Y w0 w bl mem) (hos : w'.os = w.os) (htp : w'.tape = w.tape) (hout : w'.output = w.output) (hsz : w.heap.size ≤ w'.heap.size) (hheap : ∀ b, b < w.heap.size → w'.heap[b]? = w.heap[b]?) :
    WS X Y w0 w' bl mem ∧ (∀ b, Fr X w bl mem b → Fr X w' bl mem b ∧ w'.heap[b]? = w.heap[b]?) := by
  have hF : ∀ b, Fr X w bl mem b → Fr X w' bl mem b ∧ w'.heap[b]? = w.heap[b]? := fun b ⟨h1, h2, h3⟩ => ⟨⟨by omega, h2, h3⟩, hheap b h1⟩
  refine ⟨⟨hos.trans h.os, htp.trans h.tape, hout.trans h.output, Nat.le_trans h.size hsz, h.xlt, fun b hb hy => by rw [hheap b (Nat.lt_of_lt_of_le hb h.size)]; exact h.frame b hb hy, fun i => ?_, h.inj, fun i b c hi hb => by have := h.own i b c hi hb; exact ⟨this.1, this.2.1, by omega⟩⟩, hF⟩
  cases hd : (mem i).live with
  | false => cases hm : mem i <;> first | trivial | (rw [hm] at hd; cases hd)
  | true => exact OO.mono hF (Later.refl _ _) (fun b c hb => hheap b (h.own i b c hd hb).2.2) (h.obj i)

theorem WS.drew (hw : WS X Y w0 w bl mem) : WS X Y w0 w.drew bl mem ∧ ∀ b, Fr X w bl mem b → Fr X w.drew bl mem b ∧ w.drew.heap[b]? = w.heap[b]? :=
  WS.grow hw rfl rfl rfl (Nat.le_refl _) (fun _ _ => rfl)

end

/-- A state of the machine in the middle of a call stands for the abstract state (env, mem); since (w1, bl1, mem1) what is read has not turned. -/
def ST (N : Nat) (X Y : Nat → Prop) (w0 w1 : World) (bl1 : Nat → Loc) (mem1 : Mem) (a : Act) (w : World) (env : Env) (mem : Mem) : Prop :=
  a.defers = [] ∧ a.tmps.size = N ∧ ∃ bl, WS X Y w0 w bl mem ∧ (∀ k, VV w (Fr X w bl mem) bl mem (a.tmps.getD k undef) (env k)) ∧
    (∀ b, Fr X w1 bl1 mem1 b → Fr X w bl mem b ∧ w.heap[b]? = w1.heap[b]?) ∧ Later mem1 mem bl1 bl

end Go.Ab
