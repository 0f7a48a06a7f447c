/- The instructions that turn nothing: each tells what its operation does. -/
import Derived.WalkKit
import Derived.Laws.AppendOwn
import Derived.Laws.MakeOwn
import Derived.MapKept
set_option linter.unusedSimpArgs false
set_option linter.unusedVariables false
namespace Go.Ab
open Go
/-- An abstract value. 'fs': a slice that is only read, by its elements; 'sl': a slice over a row of the call's own; 'fp': a pointer to cells that are only read; 'ptr', 'rp': into a variable's, a row's cells. -/
inductive AV where
  | undef
  | int (k : IntKind) (n : Int)
  | bool (b : Bool)
  | str (s : ByteArray)
  | nilp
  | nilf
  | cap0
  | fs (n : Nat) (f : Nat → AV)
  | sl (id ver len : Nat)
  | fp (cs : List AV)
  | ptr (id ver off : Nat)
  | rp (id ver i off : Nat)
  | mp (id ver : Nat)
  | agg (cs : List AV)
  | tup (vs : List AV)
  | fn (f : Nat) (caps : List AV)
  | vs (id ver len : Nat)
  | vp (id ver i off : Nat)
  | sk (id ver off len : Nat)
  | it (id ver : Nat)

instance : Inhabited AV := ⟨.undef⟩

def AV.cells : AV → List AV
  | .agg cs => cs
  | v => [v]

/-- May it stand in one cell? -/
def AV.isCell : AV → Bool
  | .undef | .agg _ | .tup _ => false
  | _ => true

inductive Loc where
  | none
  | blk (b cap : Nat)

/-- What a map's keys are. -/
inductive MK where
  | str
  | int (k : IntKind)
  | ints (ks : List IntKind)

/-- An object of the call's own. Its version grows whenever what led to it leads to it no more. -/
inductive AO where
  | dead (ver : Nat)
  | var (ver : Nat) (cs : List AV)
  | row (ver e sz n : Nat) (f : Nat → AV)
  | map (ver : Nat) (d : MK) (k : Option IntKind) (p : Value → Bool) (g : Value → Int)
  | vrow (ver e sz n : Nat) (f : Nat → AV)
  | iter (ver : Nat) (d : MK) (k : Option IntKind) (p : Value → Bool) (g : Value → Int) (cur : Option Value)

def AO.ver : AO → Nat
  | .dead v => v
  | .var v _ => v
  | .row v _ _ _ _ => v
  | .map v _ _ _ _ => v
  | .vrow v _ _ _ _ => v
  | .iter v _ _ _ _ _ => v

def AO.live : AO → Bool
  | .dead _ => false
  | _ => true

abbrev Mem := Nat → AO
abbrev Env := Nat → AV

def slv : Loc → Nat → Value
  | .none, _ => .slice none 0 0
  | .blk b c, n => .slice (some ⟨b, 0, none⟩) n c

/-- Data that is only read: its memory lies in the blocks F. -/
inductive FV (w : World) (F : Nat → Prop) : Value → AV → Prop
  | undef (v : Value) : FV w F v .undef
  | int (k : IntKind) (n : Int) : FV w F (.int k n) (.int k n)
  | bool (b : Bool) : FV w F (.bool b) (.bool b)
  | str (s : ByteArray) : FV w F (.string s) (.str s)
  | nilp : FV w F (.pointer none) .nilp
  | nilf : FV w F .nilFunc .nilf
  | cap0 : FV w F (.slice none 0 0) .cap0
  | fs0 (a : Option Addr) (c : Nat) (f : Nat → AV) : FV w F (.slice a 0 c) (.fs 0 f)
  | fs (ad : Addr) (n c sz : Nat) (f : Nat → AV) (val : Nat → Nat → Value) (hb : F ad.block) (hc : n ≤ c) (hsz : 0 < sz) (hl : ∀ i, i < n → (f i).cells.length = sz)
      (hv : ∀ i j, i < n → j < sz → w.cell? (ad.add (i * sz + j)) = some (val i j))
      (hr : ∀ i j, i < n → j < sz → FV w F (val i j) ((f i).cells.getD j .undef)) : FV w F (.slice (some ad) n c) (.fs n f)
  | fp (ad : Addr) (cs : List AV) (val : Nat → Value) (hb : F ad.block)
      (hv : ∀ j, j < cs.length → w.cell? (ad.add j) = some (val j))
      (hr : ∀ j, j < cs.length → FV w F (val j) (cs.getD j .undef)) : FV w F (.pointer (some ad)) (.fp cs)
  | agg (vs : Array Value) (cs : List AV) (hl : vs.size = cs.length) (hr : ∀ j, j < cs.length → FV w F (vs.getD j undef) (cs.getD j .undef)) : FV w F (.agg vs) (.agg cs)
  | tup (vs : Array Value) (cs : List AV) (hl : vs.size = cs.length) (hr : ∀ j, j < cs.length → FV w F (vs.getD j undef) (cs.getD j .undef)) : FV w F (.tuple vs) (.tup cs)
  | fn (g : Nat) (vs : Array Value) (cs : List AV) (hl : vs.size = cs.length) (hr : ∀ j, j < cs.length → FV w F (vs.getD j undef) (cs.getD j .undef)) : FV w F (.func (.func g) #[] vs) (.fn g cs)

theorem FV.mono {w w' : World} {F F' : Nat → Prop} (h : ∀ b, F b → F' b ∧ w'.heap[b]? = w.heap[b]?) {v : Value} {a : AV} (hv : FV w F v a) : FV w' F' v a := by
  induction hv with
  | undef v => exact .undef v
  | int k n => exact .int k n
  | bool b => exact .bool b
  | str s => exact .str s
  | nilp => exact .nilp
  | nilf => exact .nilf
  | cap0 => exact .cap0
  | fs0 a c f => exact .fs0 a c f
  | fs ad n c sz f val hb hc hsz hl hv hr ih =>
    refine .fs ad n c sz f val (h _ hb).1 hc hsz hl (fun i j hi hj => ?_) ih
    have e := hv i j hi hj
    have hbk : (ad.add (i * sz + j)).block = ad.block := by unfold Addr.add; split <;> rfl
    rw [World.cell?_of_block (w := w) (by rw [hbk]; exact (h _ hb).2)]
    exact e
  | fp ad cs val hb hv hr ih =>
    refine .fp ad cs val (h _ hb).1 (fun j hj => ?_) ih
    have e := hv j hj
    have hbk : (ad.add j).block = ad.block := by unfold Addr.add; split <;> rfl
    rw [World.cell?_of_block (w := w) (by rw [hbk]; exact (h _ hb).2)]
    exact e
  | agg vs cs hl hr ih => exact .agg vs cs hl ih
  | tup vs cs hl hr ih => exact .tup vs cs hl ih
  | fn g vs cs hl hr ih => exact .fn g vs cs hl ih

/-- Any value that the call may hold: data that is only read, and what leads to objects of its own (a reference of an elder version leads nowhere). -/
inductive VV (w : World) (F : Nat → Prop) (bl : Nat → Loc) (mem : Mem) : Value → AV → Prop
  | fz {v : Value} {a : AV} (h : FV w F v a) : VV w F bl mem v a
  | sl (A : Option Addr) (n c id ver len : Nat) (hle : ver ≤ (mem id).ver) (h : ∀ e sz m f, mem id = .row ver e sz m f → len ≤ m ∧ .slice A n c = slv (bl id) len) : VV w F bl mem (.slice A n c) (.sl id ver len)
  | ptr (A : Option Addr) (id ver off : Nat) (hle : ver ≤ (mem id).ver) (h : ∀ cs, mem id = .var ver cs → ∃ b c, bl id = .blk b c ∧ A = some ⟨b, off, none⟩) : VV w F bl mem (.pointer A) (.ptr id ver off)
  | rp (A : Option Addr) (id ver i off : Nat) (hle : ver ≤ (mem id).ver) (h : ∀ e sz m f, mem id = .row ver e sz m f → ∃ b c, bl id = .blk b c ∧ i < m ∧ A = some ⟨b, i * sz + off, none⟩) : VV w F bl mem (.pointer A) (.rp id ver i off)
  | vs (A : Option Addr) (n c id ver len : Nat) (hle : ver ≤ (mem id).ver) (h : ∀ e sz m f, mem id = .vrow ver e sz m f → len ≤ m ∧ .slice A n c = slv (bl id) len) : VV w F bl mem (.slice A n c) (.vs id ver len)
  | vp (A : Option Addr) (id ver i off : Nat) (hle : ver ≤ (mem id).ver) (h : ∀ e sz m f, mem id = .vrow ver e sz m f → ∃ b c, bl id = .blk b c ∧ i < m ∧ A = some ⟨b, i * sz + off, none⟩) : VV w F bl mem (.pointer A) (.vp id ver i off)
  | sk (A : Option Addr) (n c id ver off len : Nat) (hle : ver ≤ (mem id).ver) (h : ∀ e sz m f, mem id = .row ver e sz m f → off + len ≤ m ∧ n = len ∧ (0 < len → ∃ b c', bl id = .blk b c' ∧ A = some ⟨b, off * sz, none⟩)) : VV w F bl mem (.slice A n c) (.sk id ver off len)
  | it (A : Option Addr) (id ver : Nat) (hle : ver ≤ (mem id).ver) (h : ∀ d k p g cur, mem id = .iter ver d k p g cur → ∃ b c, bl id = .blk b c ∧ A = some ⟨b, 0, none⟩) : VV w F bl mem (.pointer A) (.it id ver)
  | mp (r : Option Nat) (id ver : Nat) (hle : ver ≤ (mem id).ver) (h : ∀ d k p g, mem id = .map ver d k p g → ∃ b c, bl id = .blk b c ∧ r = some b) : VV w F bl mem (.map r) (.mp id ver)
  | agg (vs : Array Value) (cs : List AV) (hl : vs.size = cs.length) (hr : ∀ j, j < cs.length → VV w F bl mem (vs.getD j undef) (cs.getD j .undef)) : VV w F bl mem (.agg vs) (.agg cs)
  | tup (vs : Array Value) (cs : List AV) (hl : vs.size = cs.length) (hr : ∀ j, j < cs.length → VV w F bl mem (vs.getD j undef) (cs.getD j .undef)) : VV w F bl mem (.tuple vs) (.tup cs)
  | fn (g : Nat) (vs : Array Value) (cs : List AV) (hl : vs.size = cs.length) (hr : ∀ j, j < cs.length → VV w F bl mem (vs.getD j undef) (cs.getD j .undef)) : VV w F bl mem (.func (.func g) #[] vs) (.fn g cs)

/-- The same object, in the same version: what may have become of it. -/
def Kept : AO → AO → Prop
  | .dead _, .dead _ => True
  | .var _ cs, .var _ cs' => cs'.length = cs.length
  | .row _ e sz n _, .row _ e' sz' n' _ => e' = e ∧ sz' = sz ∧ n ≤ n'
  | .map _ d k _ _, .map _ d' k' _ _ => d' = d ∧ k' = k
  | .vrow _ e sz n _, .vrow _ e' sz' n' _ => e' = e ∧ sz' = sz ∧ n ≤ n'
  | .iter _ _ _ _ _ _, .iter _ _ _ _ _ _ => True
  | _, _ => False

theorem Kept.refl (o : AO) : Kept o o := by cases o <;> simp [Kept]

/-- From one memory to a later one. -/
def Later (mem mem' : Mem) (bl bl' : Nat → Loc) : Prop := ∀ id, (mem id).ver ≤ (mem' id).ver ∧ ((mem' id).ver = (mem id).ver → Kept (mem id) (mem' id) ∧ bl' id = bl id)

theorem Later.refl (mem : Mem) (bl : Nat → Loc) : Later mem mem bl bl := fun _ => ⟨Nat.le_refl _, fun _ => ⟨Kept.refl _, rfl⟩⟩

theorem VV.mono {w w' : World} {F F' : Nat → Prop} {bl bl' : Nat → Loc} {mem mem' : Mem} (h : ∀ b, F b → F' b ∧ w'.heap[b]? = w.heap[b]?)
    (hk : Later mem mem' bl bl') {v : Value} {a : AV} (hv : VV w F bl mem v a) : VV w' F' bl' mem' v a := by
  induction hv with
  | fz h1 => exact .fz (h1.mono h)
  | sl A n c id ver len hle hh =>
    obtain ⟨k1, k2⟩ := hk id
    refine .sl A n c id ver len (Nat.le_trans hle k1) (fun e sz m f hm' => ?_)
    have hv' : (mem' id).ver = ver := by rw [hm']; rfl
    obtain ⟨k3, k4⟩ := k2 (by omega)
    cases hm : mem id with
    | row v0 e0 sz0 n0 f0 =>
      have hv0 : v0 = ver := by have : (mem id).ver = v0 := by rw [hm]; rfl
                                omega
      rw [hm, hm'] at k3
      obtain ⟨rfl, rfl, k5⟩ := k3
      subst hv0
      obtain ⟨g1, g2⟩ := hh _ _ _ _ hm
      exact ⟨by omega, by rw [g2, k4]⟩
    | _ => rw [hm, hm'] at k3; exact k3.elim
  | ptr A id ver off hle hh =>
    obtain ⟨k1, k2⟩ := hk id
    refine .ptr A id ver off (Nat.le_trans hle k1) (fun cs hm' => ?_)
    have hv' : (mem' id).ver = ver := by rw [hm']; rfl
    obtain ⟨k3, k4⟩ := k2 (by omega)
    cases hm : mem id with
    | var v0 cs0 =>
      have hv0 : v0 = ver := by have : (mem id).ver = v0 := by rw [hm]; rfl
                                omega
      subst hv0
      obtain ⟨b, c, g1, g2⟩ := hh _ hm
      exact ⟨b, c, by rw [k4, g1], g2⟩
    | _ => rw [hm, hm'] at k3; exact k3.elim
  | rp A id ver i off hle hh =>
    obtain ⟨k1, k2⟩ := hk id
    refine .rp A id ver i off (Nat.le_trans hle k1) (fun e sz m f hm' => ?_)
    have hv' : (mem' id).ver = ver := by rw [hm']; rfl
    obtain ⟨k3, k4⟩ := k2 (by omega)
    cases hm : mem id with
    | row v0 e0 sz0 n0 f0 =>
      have hv0 : v0 = ver := by have : (mem id).ver = v0 := by rw [hm]; rfl
                                omega
      rw [hm, hm'] at k3
      obtain ⟨rfl, rfl, k5⟩ := k3
      subst hv0
      obtain ⟨b, c, g1, g2, g3⟩ := hh _ _ _ _ hm
      exact ⟨b, c, by rw [k4, g1], by omega, g3⟩
    | _ => rw [hm, hm'] at k3; exact k3.elim
  | vs A n c id ver len hle hh =>
    obtain ⟨k1, k2⟩ := hk id
    refine .vs A n c id ver len (Nat.le_trans hle k1) (fun e sz m f hm' => ?_)
    have hv' : (mem' id).ver = ver := by rw [hm']; rfl
    obtain ⟨k3, k4⟩ := k2 (by omega)
    cases hm : mem id with
    | vrow v0 e0 sz0 n0 f0 =>
      have hv0 : v0 = ver := by have : (mem id).ver = v0 := by rw [hm]; rfl
                                omega
      rw [hm, hm'] at k3
      obtain ⟨rfl, rfl, k5⟩ := k3
      subst hv0
      obtain ⟨g1, g2⟩ := hh _ _ _ _ hm
      exact ⟨by omega, by rw [g2, k4]⟩
    | _ => rw [hm, hm'] at k3; exact k3.elim
  | vp A id ver i off hle hh =>
    obtain ⟨k1, k2⟩ := hk id
    refine .vp A id ver i off (Nat.le_trans hle k1) (fun e sz m f hm' => ?_)
    have hv' : (mem' id).ver = ver := by rw [hm']; rfl
    obtain ⟨k3, k4⟩ := k2 (by omega)
    cases hm : mem id with
    | vrow v0 e0 sz0 n0 f0 =>
      have hv0 : v0 = ver := by have : (mem id).ver = v0 := by rw [hm]; rfl
                                omega
      rw [hm, hm'] at k3
      obtain ⟨rfl, rfl, k5⟩ := k3
      subst hv0
      obtain ⟨b, c, g1, g2, g3⟩ := hh _ _ _ _ hm
      exact ⟨b, c, by rw [k4, g1], by omega, g3⟩
    | _ => rw [hm, hm'] at k3; exact k3.elim
  | sk A n c id ver off len hle hh =>
    obtain ⟨k1, k2⟩ := hk id
    refine .sk A n c id ver off len (Nat.le_trans hle k1) (fun e sz m f hm' => ?_)
    have hv' : (mem' id).ver = ver := by rw [hm']; rfl
    obtain ⟨k3, k4⟩ := k2 (by omega)
    cases hm : mem id with
    | row v0 e0 sz0 n0 f0 =>
      have hv0 : v0 = ver := by have : (mem id).ver = v0 := by rw [hm]; rfl
                                omega
      rw [hm, hm'] at k3
      obtain ⟨rfl, rfl, k5⟩ := k3
      subst hv0
      obtain ⟨g1, g2, g3⟩ := hh _ _ _ _ hm
      exact ⟨by omega, g2, fun h0 => by rw [k4]; exact g3 h0⟩
    | _ => rw [hm, hm'] at k3; exact k3.elim
  | it A id ver hle hh =>
    obtain ⟨k1, k2⟩ := hk id
    refine .it A id ver (Nat.le_trans hle k1) (fun d k p g cur hm' => ?_)
    have hv' : (mem' id).ver = ver := by rw [hm']; rfl
    obtain ⟨k3, k4⟩ := k2 (by omega)
    cases hm : mem id with
    | iter v0 d0 k0 p0 g0 c0 =>
      have hv0 : v0 = ver := by have : (mem id).ver = v0 := by rw [hm]; rfl
                                omega
      subst hv0
      obtain ⟨b, c, g1, g2⟩ := hh _ _ _ _ _ hm
      exact ⟨b, c, by rw [k4, g1], g2⟩
    | _ => rw [hm, hm'] at k3; exact k3.elim
  | mp r id ver hle hh =>
    obtain ⟨k1, k2⟩ := hk id
    refine .mp r id ver (Nat.le_trans hle k1) (fun d k p g hm' => ?_)
    have hv' : (mem' id).ver = ver := by rw [hm']; rfl
    obtain ⟨k3, k4⟩ := k2 (by omega)
    cases hm : mem id with
    | map v0 d0 k0 p0 g0 =>
      have hv0 : v0 = ver := by have : (mem id).ver = v0 := by rw [hm]; rfl
                                omega
      subst hv0
      obtain ⟨b, c, g1, g2⟩ := hh _ _ _ _ hm
      exact ⟨b, c, by rw [k4, g1], g2⟩
    | _ => rw [hm, hm'] at k3; exact k3.elim
  | agg vs cs hl hr ih => exact .agg vs cs hl ih
  | tup vs cs hl hr ih => exact .tup vs cs hl ih
  | fn g vs cs hl hr ih => exact .fn g vs cs hl ih

def Mem.set (id : Nat) (o : AO) (mem : Mem) : Mem := fun j => bif Nat.beq j id then o else mem j
def Env.put (d : Nat) (v : AV) (env : Env) : Env := fun j => bif Nat.beq j d then v else env j

theorem beq_false_of_ne {j id : Nat} (h : j ≠ id) : Nat.beq j id = false := by
  cases hb : Nat.beq j id with
  | false => rfl
  | true => exact absurd (Nat.eq_of_beq_eq_true hb) h

theorem ne_of_beq_false {j id : Nat} (h : Nat.beq j id = false) : j ≠ id := fun e => by subst e; simp at h
end Go.Ab
namespace Go.Ab
open Go
def Own (bl : Nat → Loc) (mem : Mem) (b : Nat) : Prop := ∃ i c, (mem i).live = true ∧ bl i = .blk b c
/-- The blocks that are read and not written. -/
def Fr (X : Nat → Prop) (w : World) (bl : Nat → Loc) (mem : Mem) (b : Nat) : Prop := b < w.heap.size ∧ ¬ X b ∧ ¬ Own bl mem b

/-! ### maps: keys are whole numbers or strings, elements whole numbers or truths -/
/-- A struct of whole numbers. -/
def aggInts : List IntKind → List Value → Prop
  | [], [] => True
  | k :: ks, .int k' _ :: vs => k' = k ∧ aggInts ks vs
  | _, _ => False
def MK.isK : MK → Value → Prop
  | .str, .string _ => True
  | .int k, .int k' _ => k' = k
  | .ints ks, .agg vs => aggInts ks vs.toList
  | _, _ => False
def keyEqL : List Value → List Value → Bool
  | [], [] => true
  | .int j a :: r, .int k b :: s => decide (j = k) && decide (a = b) && keyEqL r s
  | _, _ => false
def keyEq : Value → Value → Bool
  | .int j a, .int k b => decide (j = k) && decide (a = b)
  | .string a, .string b => decide (a = b)
  | .bool a, .bool b => decide (a = b)
  | .agg a, .agg b => keyEqL a.toList b.toList
  | _, _ => false
theorem keyEqL_true : ∀ {a b : List Value}, keyEqL a b = true → a = b
  | [], [], _ => rfl
  | [], _ :: _, h => by simp [keyEqL] at h
  | x :: _, [], h => by cases x <;> simp [keyEqL] at h
  | x :: r, y :: s, h => by
    cases x <;> cases y <;> simp only [keyEqL, Bool.false_eq_true, Bool.and_eq_true, decide_eq_true_eq] at h
    obtain ⟨⟨rfl, rfl⟩, h⟩ := h
    rw [keyEqL_true h]
theorem keyEqL_self : ∀ {ks : List IntKind} {a : List Value}, aggInts ks a → keyEqL a a = true
  | [], [], _ => rfl
  | [], _ :: _, h => by simp [aggInts] at h
  | _ :: _, [], h => by simp [aggInts] at h
  | k :: ks, x :: r, h => by
    cases x <;> simp only [aggInts] at h
    simp only [keyEqL, decide_true, Bool.and_self, Bool.true_and]
    exact keyEqL_self h.2
theorem keyEq_true {a b : Value} (h : keyEq a b = true) : a = b := by
  cases a <;> cases b <;> simp_all [keyEq]
  exact Array.toList_inj.1 (keyEqL_true h)
def elV (k : Option IntKind) (n : Int) : Value := match k with | some k => .int k n | none => .bool (n == 1)
def elA (k : Option IntKind) (n : Int) : AV := match k with | some k => .int k n | none => .bool (n == 1)
theorem keyEq_self {d : MK} {a : Value} (h : d.isK a) : keyEq a a = true := by
  cases d <;> cases a <;> simp only [MK.isK] at h <;> simp only [keyEq, decide_true, Bool.and_self]
  exact keyEqL_self h
def MapRep (es : Array MapEntry) (clock : Nat) (d : MK) (k : Option IntKind) (p : Value → Bool) (g : Value → Int) : Prop :=
  MapKept.Stamped es clock ∧ (∀ x ∈ es.toList, d.isK x.key) ∧ (∀ x ∈ es.toList, p x.key = true ∧ x.val = elV k (g x.key)) ∧ (∀ key, p key = true → ∃ x ∈ es.toList, x.key = key) ∧ ∀ key, p key = false → g key = 0

/-- An iterator over a map that turns no more: p: the keys that are still to come. -/
def IterRep (es : Array MapEntry) (clock : Nat) (seen : Array Nat) (d : MK) (k : Option IntKind) (p : Value → Bool) (g : Value → Int) (cur : Option Value) : Prop :=
  MapKept.Stamped es clock ∧ (∀ x ∈ es.toList, d.isK x.key ∧ x.val = elV k (g x.key) ∧ p x.key = !seen.contains x.born) ∧ (∀ key, p key = true → ∃ x ∈ es.toList, x.key = key) ∧
    ∀ key, cur = some key → ∃ x ∈ es.toList, x.key = key ∧ ∃ s, seen = Array.push s x.born

def OO (w : World) (F : Nat → Prop) (bl : Nat → Loc) (mem : Mem) : AO → Loc → Prop
  | .dead _, _ => True
  | .var _ cs, l => ∃ b c arr e, l = .blk b c ∧ w.heap[b]? = some (.cells arr e (0, 0)) ∧ arr.size = cs.length ∧ ∀ j, j < cs.length → VV w F bl mem (arr.getD j undef) (cs.getD j .undef)
  | .row _ e sz n f, l => 0 < sz ∧ ∃ xs, w.ownsRow 0 e sz (slv l n) n xs ∧ ∀ i, i < n → (f i).cells.length = sz ∧ ∀ j, j < sz → FV w F (xs.getD (i * sz + j) undef) ((f i).cells.getD j .undef)
  | .vrow _ e sz n f, l => 0 < sz ∧ ∃ xs, w.ownsRow 0 e sz (slv l n) n xs ∧ ∀ i, i < n → (f i).cells.length = sz ∧ ∀ j, j < sz → VV w F bl mem (xs.getD (i * sz + j) undef) ((f i).cells.getD j .undef)
  | .map _ d k p g, l => ∃ b c es clock, l = .blk b c ∧ w.heap[b]? = some (.map es clock) ∧ MapRep es clock d k p g
  | .iter _ d k p g cur, l => ∃ b c bm es clock seen, l = .blk b c ∧ w.heap[b]? = some (.mapIter (some bm) clock seen clock) ∧ F bm ∧ w.heap[bm]? = some (.map es clock) ∧ IterRep es clock seen d k p g cur

structure WS (X Y : Nat → Prop) (w0 w : World) (bl : Nat → Loc) (mem : Mem) : Prop where
  os : w.os = w0.os
  tape : w.tape = w0.tape
  output : w.output = w0.output
  size : w0.heap.size ≤ w.heap.size
  xlt : ∀ b, X b → b < w0.heap.size
  frame : ∀ b, b < w0.heap.size → ¬ Y b → w.heap[b]? = w0.heap[b]?
  obj : ∀ i, OO w (Fr X w bl mem) bl mem (mem i) (bl i)
  inj : ∀ i j b c d, (mem i).live = true → (mem j).live = true → bl i = .blk b c → bl j = .blk b d → i = j
  own : ∀ i b c, (mem i).live = true → bl i = .blk b c → ¬ X b ∧ (Y b ∨ w0.heap.size ≤ b) ∧ b < w.heap.size

def updL (id : Nat) (l : Loc) (bl : Nat → Loc) : Nat → Loc := fun j => bif Nat.beq j id then l else bl j

theorem updL_same (id : Nat) (l : Loc) (bl : Nat → Loc) : updL id l bl id = l := by simp [updL]
theorem updL_ne {j id : Nat} (h : j ≠ id) (l : Loc) (bl : Nat → Loc) : updL id l bl j = bl j := by simp [updL, beq_false_of_ne h]
theorem set_same (id : Nat) (o : AO) (mem : Mem) : Mem.set id o mem id = o := by simp [Mem.set]
theorem set_ne {j id : Nat} (h : j ≠ id) (o : AO) (mem : Mem) : Mem.set id o mem j = mem j := by simp [Mem.set, beq_false_of_ne h]
section
variable {X Y : Nat → Prop} {w0 w w' : World} {bl : Nat → Loc} {mem : Mem}

theorem OO.mono {F F' : Nat → Prop} {bl' : Nat → Loc} {mem' : Mem} {o : AO} {l : Loc} (h : ∀ b, F b → F' b ∧ w'.heap[b]? = w.heap[b]?)
    (hk : Later mem mem' bl bl') (hl : ∀ b c, l = .blk b c → w'.heap[b]? = w.heap[b]?) (ho : OO w F bl mem o l) : OO w' F' bl' mem' o l := by
  cases o with
  | dead => trivial
  | var ver cs =>
    obtain ⟨b, c, arr, e, rfl, hh, hs, hr⟩ := ho
    exact ⟨b, c, arr, e, rfl, by rw [hl b c rfl]; exact hh, hs, fun j hj => (hr j hj).mono h hk⟩
  | row ver e sz n f =>
    obtain ⟨h0, xs, ⟨h1, h2⟩, h3⟩ := ho
    refine ⟨h0, xs, ⟨h1, ?_⟩, fun i hi => ⟨(h3 i hi).1, fun j hj => ((h3 i hi).2 j hj).mono h⟩⟩
    rcases h2 with h2 | ⟨g, cap, cur, hv, hb, hh, r⟩
    · exact .inl h2
    · refine .inr ⟨g, cap, cur, hv, hb, ?_, r⟩
      cases l with
      | none => simp [slv] at hv
      | blk b c =>
        simp only [slv, Value.slice.injEq, Option.some.injEq, Addr.mk.injEq] at hv
        obtain ⟨⟨rfl, _⟩, _, rfl⟩ := hv
        rw [hl b c rfl]; exact hh
  | vrow ver e sz n f =>
    obtain ⟨h0, xs, ⟨h1, h2⟩, h3⟩ := ho
    refine ⟨h0, xs, ⟨h1, ?_⟩, fun i hi => ⟨(h3 i hi).1, fun j hj => ((h3 i hi).2 j hj).mono h hk⟩⟩
    rcases h2 with h2 | ⟨g, cap, cur, hv, hb, hh, r⟩
    · exact .inl h2
    · refine .inr ⟨g, cap, cur, hv, hb, ?_, r⟩
      cases l with
      | none => simp [slv] at hv
      | blk b c =>
        simp only [slv, Value.slice.injEq, Option.some.injEq, Addr.mk.injEq] at hv
        obtain ⟨⟨rfl, _⟩, _, rfl⟩ := hv
        rw [hl b c rfl]; exact hh
  | map ver d k p g =>
    obtain ⟨b, c, es, clock, rfl, hh, hr⟩ := ho
    exact ⟨b, c, es, clock, rfl, by rw [hl b c rfl]; exact hh, hr⟩
  | iter ver d k p g cur =>
    obtain ⟨b, c, bm, es, clock, seen, rfl, hh, hF, hm, hr⟩ := ho
    exact ⟨b, c, bm, es, clock, seen, rfl, by rw [hl b c rfl]; exact hh, (h bm hF).1, by rw [(h bm hF).2]; exact hm, hr⟩

/-- One object turns: its cells are written (the version stays), or it is made anew, grows, is let go (the version grows). The block that is written is its own, or a new one. -/
theorem WS.upd (h : WS X Y w0 w bl mem) (id : Nat) (o : AO) (l : Loc) (hver : (mem id).ver ≤ o.ver) (hsame : o.ver = (mem id).ver → Kept (mem id) o ∧ l = bl id)
    (hos : w'.os = w.os) (htp : w'.tape = w.tape) (hout : w'.output = w.output) (hsz : w.heap.size ≤ w'.heap.size)
    (hheap : ∀ b, b < w.heap.size → (∀ c, (mem id).live = true → bl id ≠ .blk b c) → w'.heap[b]? = w.heap[b]?)
    (hnew : ∀ b c, o.live = true → l = .blk b c → (w.heap.size ≤ b ∨ ((mem id).live = true ∧ ∃ c0, bl id = .blk b c0)) ∧ b < w'.heap.size)
    (ho : (∀ b, Fr X w bl mem b → Fr X w' (updL id l bl) (Mem.set id o mem) b ∧ w'.heap[b]? = w.heap[b]?) → Later mem (Mem.set id o mem) bl (updL id l bl) → OO w' (Fr X w' (updL id l bl) (Mem.set id o mem)) (updL id l bl) (Mem.set id o mem) o l) :
    WS X Y w0 w' (updL id l bl) (Mem.set id o mem) ∧ (∀ b, Fr X w bl mem b → Fr X w' (updL id l bl) (Mem.set id o mem) b ∧ w'.heap[b]? = w.heap[b]?) ∧ Later mem (Mem.set id o mem) bl (updL id l bl) := by
  have hk : Later mem (Mem.set id o mem) bl (updL id l bl) := fun j => by
    by_cases e : j = id
    · subst e; rw [set_same, updL_same]; exact ⟨hver, fun g => ⟨(hsame g).1, (hsame g).2⟩⟩
    · rw [set_ne e, updL_ne e]; exact ⟨Nat.le_refl _, fun _ => ⟨Kept.refl _, rfl⟩⟩
  have hF : ∀ b, Fr X w bl mem b → Fr X w' (updL id l bl) (Mem.set id o mem) b ∧ w'.heap[b]? = w.heap[b]? := fun b ⟨h1, h2, h3⟩ => by
    refine ⟨⟨by omega, h2, ?_⟩, hheap b h1 fun c hd hb => h3 ⟨id, c, hd, hb⟩⟩
    rintro ⟨i, c, hi, hb⟩
    by_cases e : i = id
    · subst e
      rw [set_same] at hi
      rw [updL_same] at hb
      rcases (hnew b c hi hb).1 with g | ⟨g, c0, g0⟩
      · omega
      · exact h3 ⟨i, c0, g, g0⟩
    · rw [set_ne e] at hi
      rw [updL_ne e] at hb
      exact h3 ⟨i, c, hi, hb⟩
  refine ⟨⟨hos.trans h.os, htp.trans h.tape, hout.trans h.output, Nat.le_trans h.size hsz, h.xlt, fun b hb hy => ?_, fun i => ?_, fun i j b c d hi hj hbi hbj => ?_, fun i b c hi hb => ?_⟩, hF, hk⟩
  · rw [hheap b (Nat.lt_of_lt_of_le hb h.size) fun c hd hbl => ?_]
    · exact h.frame b hb hy
    · rcases (h.own id b c hd hbl).2.1 with g | g
      · exact hy g
      · omega
  · by_cases e : i = id
    · subst e
      have := ho hF hk
      rw [set_same, updL_same]
      exact this
    · rw [set_ne e, updL_ne e]
      cases hd : (mem i).live with
      | false => cases hm : mem i <;> first | trivial | (rw [hm] at hd; cases hd)
      | true =>
        refine OO.mono hF hk (fun b c hb => ?_) (h.obj i)
        refine hheap b (h.own i b c hd hb).2.2 fun c' hd' hb' => ?_
        exact e (h.inj i id b c c' hd hd' hb hb')
  · by_cases ei : i = id
    · by_cases ej : j = id
      · rw [ei, ej]
      · exfalso
        subst ei
        rw [set_same] at hi; rw [updL_same] at hbi
        rw [set_ne ej] at hj; rw [updL_ne ej] at hbj
        rcases (hnew b c hi hbi).1 with g | ⟨g, c0, g0⟩
        · have := (h.own j b d hj hbj).2.2; omega
        · exact ej (h.inj j i b d c0 hj g hbj g0)
    · by_cases ej : j = id
      · exfalso
        subst ej
        rw [set_same] at hj; rw [updL_same] at hbj
        rw [set_ne ei] at hi; rw [updL_ne ei] at hbi
        rcases (hnew b d hj hbj).1 with g | ⟨g, c0, g0⟩
        · have := (h.own i b c hi hbi).2.2; omega
        · exact ei (h.inj i j b c c0 hi g hbi g0)
      · rw [set_ne ei] at hi; rw [updL_ne ei] at hbi
        rw [set_ne ej] at hj; rw [updL_ne ej] at hbj
        exact h.inj i j b c d hi hj hbi hbj
  · by_cases e : i = id
    · subst e
      rw [set_same] at hi; rw [updL_same] at hb
      obtain ⟨g, hlt⟩ := hnew b c hi hb
      rcases g with g | ⟨g, c0, g0⟩
      · exact ⟨fun hx => by have := h.xlt b hx; have := h.size; omega, .inr (Nat.le_trans h.size g), hlt⟩
      · have k := h.own i b c0 g g0
        exact ⟨k.1, k.2.1, hlt⟩
    · rw [set_ne e] at hi; rw [updL_ne e] at hb
      have k := h.own i b c hi hb
      exact ⟨k.1, k.2.1, Nat.lt_of_lt_of_le k.2.2 hsz⟩

/-- Blocks of nobody's are made, draws are taken: nothing turns. -/
theorem WS.grow (h : WS X Y w0 w bl mem) (hos : w'.os = w.os) (htp : w'.tape = w.tape) (hout : w'.output = w.output) (hsz : w.heap.size ≤ w'.heap.size) (hheap : ∀ b, b < w.heap.size → w'.heap[b]? = w.heap[b]?) :
    WS X Y w0 w' bl mem ∧ (∀ b, Fr X w bl mem b → Fr X w' bl mem b ∧ w'.heap[b]? = w.heap[b]?) := by
  have hF : ∀ b, Fr X w bl mem b → Fr X w' bl mem b ∧ w'.heap[b]? = w.heap[b]? := fun b ⟨h1, h2, h3⟩ => ⟨⟨by omega, h2, h3⟩, hheap b h1⟩
  refine ⟨⟨hos.trans h.os, htp.trans h.tape, hout.trans h.output, Nat.le_trans h.size hsz, h.xlt, fun b hb hy => by rw [hheap b (Nat.lt_of_lt_of_le hb h.size)]; exact h.frame b hb hy, fun i => ?_, h.inj, fun i b c hi hb => by have := h.own i b c hi hb; exact ⟨this.1, this.2.1, by omega⟩⟩, hF⟩
  cases hd : (mem i).live with
  | false => cases hm : mem i <;> first | trivial | (rw [hm] at hd; cases hd)
  | true => exact OO.mono hF (Later.refl _ _) (fun b c hb => hheap b (h.own i b c hd hb).2.2) (h.obj i)

theorem WS.drew (hw : WS X Y w0 w bl mem) : WS X Y w0 w.drew bl mem ∧ ∀ b, Fr X w bl mem b → Fr X w.drew bl mem b ∧ w.drew.heap[b]? = w.heap[b]? :=
  WS.grow hw rfl rfl rfl (Nat.le_refl _) (fun _ _ => rfl)

end

/-- A state of the machine in the middle of a call stands for the abstract state (env, mem); since (w1, bl1, mem1) what is read has not turned. -/
def ST (N : Nat) (X Y : Nat → Prop) (w0 w1 : World) (bl1 : Nat → Loc) (mem1 : Mem) (a : Act) (w : World) (env : Env) (mem : Mem) : Prop :=
  a.defers = [] ∧ a.tmps.size = N ∧ ∃ bl, WS X Y w0 w bl mem ∧ (∀ k, VV w (Fr X w bl mem) bl mem (a.tmps.getD k undef) (env k)) ∧
    (∀ b, Fr X w1 bl1 mem1 b → Fr X w bl mem b ∧ w.heap[b]? = w1.heap[b]?) ∧ Later mem1 mem bl1 bl
end Go.Ab
namespace Go.Ab
open Go
inductive Opd where
  | t (n : Nat)
  | c (v : AV)
def Opd.ev (env : Env) : Opd → AV
  | .t n => env n
  | .c v => v

def cvs : Value → AV
  | .int k n => .int k n
  | .bool b => .bool b
  | .string s => .str s
  | .pointer none => .nilp
  | .nilFunc => .nilf
  | .slice none 0 0 => .cap0
  | _ => .undef
/-- The cells of a value that stands in the program's text. -/
def cvl (v : Value) : List AV := v.cells.toList.map cvs
def cv (v : Value) : AV := match v with | .agg cs => .agg (cs.toList.map cvs) | v => cvs v
def Opd.of : Operand → Opd
  | .tmp m => .t m
  | .const v => .c (cvs v)
  | .func f => .c (.fn f [])
  | .global _ => .c .undef

def kEq : IntKind → IntKind → Bool
  | .i8, .i8 | .i16, .i16 | .i32, .i32 | .i64, .i64 | .u8, .u8 | .u16, .u16 | .u32, .u32 | .u64, .u64 => true
  | _, _ => false
theorem kEq_eq {a b : IntKind} (h : kEq a b = true) : a = b := by cases a <;> cases b <;> first | rfl | cases h

def bitop (op : BinOp) (k : IntKind) (x y : Int) : Int :=
  match op with
  | .and => k.wrap (BitVec.ofInt k.bits x &&& BitVec.ofInt k.bits y).toNat
  | .or => k.wrap (BitVec.ofInt k.bits x ||| BitVec.ofInt k.bits y).toNat
  | .xor => k.wrap (BitVec.ofInt k.bits x ^^^ BitVec.ofInt k.bits y).toNat
  | _ => k.wrap (BitVec.ofInt k.bits x &&& ~~~ BitVec.ofInt k.bits y).toNat

/-- Two whole numbers: what must hold, and the result. -/
def binI (op : BinOp) (k : IntKind) (a : Int) (k' : IntKind) (b : Int) : Option (Prop × AV) :=
  match op with
  | .shl => some (0 ≤ b, .int k (k.wrap (a * 2 ^ (min b.toNat k.bits))))
  | .shr => some (0 ≤ b, .int k (a.fdiv (2 ^ (min b.toNat k.bits))))
  | .add => bif kEq k k' then some (True, .int k (k.wrap (a + b))) else none
  | .sub => bif kEq k k' then some (True, .int k (k.wrap (a - b))) else none
  | .mul => bif kEq k k' then some (True, .int k (k.wrap (a * b))) else none
  | .quo => bif kEq k k' then some (b ≠ 0, .int k (k.wrap (a.tdiv b))) else none
  | .rem => bif kEq k k' then some (b ≠ 0, .int k (a.tmod b)) else none
  | .and => bif kEq k k' then some (True, .int k (bitop .and k a b)) else none
  | .or => bif kEq k k' then some (True, .int k (bitop .or k a b)) else none
  | .xor => bif kEq k k' then some (True, .int k (bitop .xor k a b)) else none
  | .andNot => bif kEq k k' then some (True, .int k (bitop .andNot k a b)) else none
  | .eql => bif kEq k k' then some (True, .bool (a == b)) else none
  | .neq => bif kEq k k' then some (True, .bool (a != b)) else none
  | .lss => bif kEq k k' then some (True, .bool (decide (a < b))) else none
  | .leq => bif kEq k k' then some (True, .bool (decide (a ≤ b))) else none
  | .gtr => bif kEq k k' then some (True, .bool (decide (a > b))) else none
  | .geq => bif kEq k k' then some (True, .bool (decide (a ≥ b))) else none

def binS (op : BinOp) (x y : ByteArray) : Option (Prop × AV) :=
  match op with
  | .add => some (((x.size + y.size : Nat) : Int) ≤ 9223372036854775807, .str (x ++ y))
  | .eql => some (True, .bool (x.toList == y.toList))
  | .neq => some (True, .bool (!(x.toList == y.toList)))
  | _ => none

/-- A value whose cells are known in number. -/
def AV.okv : AV → Bool
  | .undef | .tup _ => false
  | _ => true

/-- What a struct's cell is. -/
inductive BK where
  | int
  | bool
  | str

inductive AI where
  | mv (x : Opd)
  | nilck (x : Opd)
  | pick (c a b : Opd)
  | bin (op : BinOp) (x y : Opd)
  | sbin (op : BinOp) (x y : Opd)
  | beq (neg : Bool) (x y : Opd)
  | not (x : Opd)
  | neg (x : Opd)
  | bnot (x : Opd)
  | conv (k : IntKind) (x : Opd)
  | len (x : Opd)
  | slen (x : Opd)
  | fld (off : Nat) (x : Opd)
  | idx (sz : Nat) (x i : Opd)
  | aidx (sz len : Nat) (x i : Opd)
  | sidx (x i : Opd)
  | load (n : Nat) (ag : Bool) (x : Opd)
  | fieldv (off n : Nat) (ag : Bool) (x : Opd)
  | ext (i : Nat) (x : Opd)
  | build (z : List AV) (parts : List (Nat × Nat × Opd))
  | mkfn (f : Nat) (caps : List Opd)
  | slc (sz : Nat) (x : Opd) (lo hi : Option Opd)
  | sslc (x : Opd) (lo hi : Option Opd)
  | aeq (ks : List BK) (neg : Bool) (x y : Opd)
  | lku (ok : Bool) (d : MK) (k : Option IntKind) (x key : Opd)
  | cp (x : Opd)
  | mx (x y : Opd)
  | mn (x y : Opd)
  | pnil (ng : Bool) (x : Opd)
  | avx (len : Nat) (x i : Opd)

/-- Cells off.. of a literal list, as a value. -/
def part? (n : Nat) (ag : Bool) (cs : List AV) : Option AV :=
  match ag with
  | true => bif Nat.ble n cs.length then some (.agg (cs.take n)) else none
  | false => match cs with
    | v :: _ => some v
    | [] => none

def fillA (env : Env) : List (Nat × Nat × Opd) → List AV → Option (List AV)
  | [], cs => some cs
  | (off, n, x) :: rest, cs =>
    bif (x.ev env).okv && Nat.beq (x.ev env).cells.length n && Nat.ble (off + n) cs.length then fillA env rest (cs.take off ++ (x.ev env).cells ++ cs.drop (off + n)) else none

def bound (env : Env) (x : Option Opd) (d : Int) : Option Int :=
  match x with
  | none => some d
  | some o => match o.ev env with
    | .int _ n => some n
    | _ => none

/-- Is the lower bound one that is computed? -/
def slcO : Option Opd → Bool
  | some (.t _) => true
  | _ => false

/-- Two structs of plain values: are they the same? -/
def eqCells : List BK → List AV → List AV → Option Bool
  | [], [], [] => some true
  | .int :: ks, .int k a :: xs, .int k' b :: ys => bif kEq k k' then (eqCells ks xs ys).map fun r => a == b && r else none
  | .bool :: ks, .bool a :: xs, .bool b :: ys => (eqCells ks xs ys).map fun r => a == b && r
  | .str :: ks, .str a :: xs, .str b :: ys => (eqCells ks xs ys).map fun r => a.toList == b.toList && r
  | _, _, _ => none
/-- A map's key. -/
def intsV : List IntKind → List AV → Option (List Value)
  | [], [] => some []
  | k :: ks, .int k' n :: cs => bif kEq k k' then (intsV ks cs).map fun r => .int k n :: r else none
  | _, _ => none
def keyV : MK → AV → Option Value
  | .str, .str s => some (.string s)
  | .ints ks, .agg cs => (intsV ks cs).map fun r => .agg r.toArray
  | .int k, .int k' n => bif kEq k k' then some (.int k n) else none
  | _, _ => none

/-- A place in an array. -/
def aidxV (mem : Mem) (sz ln : Nat) (x i : AV) : Option (Prop × AV) :=
  match i with
  | .int _ j => match x with
    | .ptr id ver o => match mem id with
      | .var ver' _ => some (ver = ver' ∧ 0 ≤ j ∧ j < ln, .ptr id ver (o + j.toNat * sz))
      | _ => none
    | .rp id ver q o => match mem id with
      | .row ver' _ _ _ _ => some (ver = ver' ∧ 0 ≤ j ∧ j < ln, .rp id ver q (o + j.toNat * sz))
      | _ => none
    | .fp cs => some (0 ≤ j ∧ j < ln, .fp (cs.drop (j.toNat * sz)))
    | _ => none
  | _ => none

/-! Slices over own rows whose elements may lead to own objects. -/
def lenV (mem : Mem) (x : AV) : Option (Prop × AV) :=
  match x with
  | .vs id ver n => match mem id with
    | .vrow ver' _ _ _ _ => some (ver = ver', .int .i64 n)
    | _ => none
  | _ => none
def fldV (mem : Mem) (off : Nat) (x : AV) : Option (Prop × AV) :=
  match x with
  | .vp i ver j o => match mem i with
    | .vrow ver' _ _ _ _ => some (ver = ver', .vp i ver j (o + off))
    | _ => none
  | _ => none
def idxV (mem : Mem) (sz : Nat) (x i : AV) : Option (Prop × AV) :=
  match i with
  | .int _ j => match x with
    | .vs id ver n => match mem id with
      | .vrow ver' _ s _ _ => bif Nat.beq s sz then some (ver = ver' ∧ 0 ≤ j ∧ j < n, .vp id ver j.toNat 0) else none
      | _ => none
    | _ => none
  | _ => none
def loadV (mem : Mem) (n : Nat) (ag : Bool) (x : AV) : Option (Prop × AV) :=
  match x with
  | .vp id ver j o => match mem id with
    | .vrow ver' _ _ m f => (part? n ag ((f j).cells.drop o)).map fun v => (ver = ver' ∧ j < m, v)
    | _ => none
  | _ => none

/-- An instruction that turns nothing: what must hold, and its value. -/
def AI.val (env : Env) (mem : Mem) : AI → Option (Prop × AV)
  | .mv x => some (True, x.ev env)
  | .nilck x => match x.ev env with
    | .ptr i ver o => match mem i with
      | .var ver' _ => some (ver = ver', .ptr i ver o)
      | _ => none
    | .fp cs => some (True, .fp cs)
    | .fn f cs => some (True, .fn f cs)
    | _ => none
  | .pick c a b => match c.ev env with
    | .bool b' => some (True, match b' with | true => a.ev env | false => b.ev env)
    | _ => none
  | .bin op x y => match x.ev env, y.ev env with
    | .int k a, .int k' b => binI op k a k' b
    | _, _ => none
  | .sbin op x y => match x.ev env, y.ev env with
    | .str a, .str b => binS op a b
    | _, _ => none
  | .beq ng x y => match x.ev env, y.ev env with
    | .bool a, .bool b => some (True, .bool (match ng with | true => !(a == b) | false => a == b))
    | _, _ => none
  | .not x => match x.ev env with
    | .bool a => some (True, .bool (!a))
    | _ => none
  | .neg x => match x.ev env with
    | .int k a => some (True, .int k (k.wrap (0 - a)))
    | _ => none
  | .bnot x => match x.ev env with
    | .int k a => some (True, .int k (bitop .xor k (if k.signed then -1 else k.max) a))
    | _ => none
  | .conv k x => match x.ev env with
    | .int _ a => some (True, .int k (k.wrap a))
    | _ => none
  | .len x => match x.ev env with
    | .fs n _ => some (True, .int .i64 n)
    | .sl id ver n => match mem id with
      | .row ver' _ _ _ _ => some (ver = ver', .int .i64 n)
      | _ => none
    | .cap0 => some (True, .int .i64 (0 : Nat))
    | v => lenV mem v
  | .slen x => match x.ev env with
    | .str s => some (True, .int .i64 s.size)
    | _ => none
  | .fld off x => match x.ev env with
    | .ptr i ver o => match mem i with
      | .var ver' _ => some (ver = ver', .ptr i ver (o + off))
      | _ => none
    | .rp i ver j o => match mem i with
      | .row ver' _ _ _ _ => some (ver = ver', .rp i ver j (o + off))
      | _ => none
    | .fp cs => some (True, .fp (cs.drop off))
    | v => fldV mem off v
  | .idx sz x i => match x.ev env, i.ev env with
    | .fs n f, .int _ j => some (0 ≤ j ∧ j < n ∧ (f j.toNat).cells.length = sz, .fp (f j.toNat).cells)
    | .sl id ver n, .int _ j => match mem id with
      | .row ver' _ s _ _ => bif Nat.beq s sz then some (ver = ver' ∧ 0 ≤ j ∧ j < n, .rp id ver j.toNat 0) else none
      | _ => none
    | v, k => idxV mem sz v k
  | .aidx sz ln x i => aidxV mem sz ln (x.ev env) (i.ev env)
  | .sidx x i => match x.ev env, i.ev env with
    | .str s, .int _ j => some (0 ≤ j ∧ j < s.size, .int .u8 ((s.data.toList.getD j.toNat 0).toNat : Int))
    | _, _ => none
  | .load n ag x => match x.ev env with
    | .ptr id ver o => match mem id with
      | .var ver' cs => (part? n ag (cs.drop o)).map fun v => (ver = ver', v)
      | _ => none
    | .rp id ver j o => match mem id with
      | .row ver' _ _ m f => (part? n ag ((f j).cells.drop o)).map fun v => (ver = ver' ∧ j < m, v)
      | _ => none
    | .fp cs => (part? n ag cs).map fun v => (True, v)
    | v => loadV mem n ag v
  | .fieldv off n ag x => match x.ev env with
    | .agg cs => (part? n ag (cs.drop off)).map fun v => (True, v)
    | _ => none
  | .ext i x => match x.ev env with
    | .tup vs => match vs[i]? with
      | some v => some (True, v)
      | none => none
    | _ => none
  | .build z parts => (fillA env parts z).map fun cs => (True, .agg cs)
  | .mkfn f caps => some (True, .fn f (caps.map (Opd.ev env)))
  | .slc sz x lo hi => match x.ev env with
    | .fs n f => match bound env lo 0, bound env hi n with
      | some l, some h => some (0 ≤ l ∧ l ≤ h ∧ h ≤ n ∧ (l < h → (f l.toNat).cells.length = sz), .fs (h - l).toNat (fun i => f (l.toNat + i)))
      | _, _ => none
    | .sl id ver n => match mem id with
      | .row ver' _ s _ _ => bif slcO lo then match bound env lo 0, bound env hi n with
          | some l, some h => some (ver = ver' ∧ s = sz ∧ 0 ≤ l ∧ l ≤ h ∧ h ≤ n, .sk id ver l.toNat (h - l).toNat)
          | _, _ => none
        else match bound env lo 0, bound env hi n with
        | some 0, some h => some (ver = ver' ∧ 0 ≤ h ∧ h ≤ n, .sl id ver h.toNat)
        | _, _ => none
      | _ => none
    | .cap0 => match bound env lo 0, bound env hi (0 : Nat) with
      | some l, some h => some (l = 0 ∧ h = 0, .cap0)
      | _, _ => none
    | _ => none
  | .sslc x lo hi => match x.ev env with
    | .str s => match bound env lo 0, bound env hi s.size with
      | some l, some h => some (0 ≤ l ∧ l ≤ h ∧ h ≤ s.size, .str (s.extract l.toNat h.toNat))
      | _, _ => none
    | _ => none
  | .aeq ks ng x y => match x.ev env, y.ev env with
    | .agg xs, .agg ys => (eqCells ks xs ys).map fun b => (True, .bool (match ng with | true => !b | false => b))
    | _, _ => none
  | .lku ok d k x key => match x.ev env, keyV d (key.ev env) with
    | .mp id ver, some kv => match mem id with
      | .map ver' d' k' p g => some (ver = ver' ∧ d' = d ∧ k' = k, match ok with | true => .tup [elA k (g kv), .bool (p kv)] | false => elA k (g kv))
      | _ => none
    | _, _ => none
  | .cp x => match x.ev env with
    | .cap0 => some (True, .int .i64 0)
    | _ => none
  | .mx x y => match x.ev env, y.ev env with
    | .int k a, .int k' b => bif kEq k k' then some (True, .int k (if b > a then b else a)) else none
    | _, _ => none
  | .mn x y => match x.ev env, y.ev env with
    | .int k a, .int k' b => bif kEq k k' then some (True, .int k (if b < a then b else a)) else none
    | _, _ => none
  | .pnil ng x => match x.ev env with
    | .ptr id ver _ => match mem id with
      | .var ver' _ => some (ver = ver', .bool ng)
      | _ => none
    | .nilp => some (True, .bool (!ng))
    | _ => none
  | .avx ln x i => match x.ev env, i.ev env with
    | .agg cs, .int _ j => some (0 ≤ j ∧ j < ln ∧ ln ≤ cs.length, cs.getD j.toNat .undef)
    | _, _ => none

/-! ### What a value is, by what it stands for -/
section
variable {w : World} {F : Nat → Prop} {bl : Nat → Loc} {mem : Mem} {u : Value}

theorem VV.int_inv {k : IntKind} {n : Int} (h : VV w F bl mem u (.int k n)) : u = .int k n := by cases h with | fz h => cases h; rfl
theorem VV.bool_inv {b : Bool} (h : VV w F bl mem u (.bool b)) : u = .bool b := by cases h with | fz h => cases h; rfl
theorem VV.str_inv {s : ByteArray} (h : VV w F bl mem u (.str s)) : u = .string s := by cases h with | fz h => cases h; rfl
theorem VV.cap0_inv (h : VV w F bl mem u .cap0) : u = .slice none 0 0 := by cases h with | fz h => cases h; rfl
theorem VV.fs_inv {n : Nat} {f : Nat → AV} (h : VV w F bl mem u (.fs n f)) : FV w F u (.fs n f) := by cases h with | fz h => exact h
theorem VV.fp_inv {cs : List AV} (h : VV w F bl mem u (.fp cs)) : FV w F u (.fp cs) := by cases h with | fz h => exact h
theorem VV.sl_inv {id ver n : Nat} (h : VV w F bl mem u (.sl id ver n)) : ∃ A k c, u = .slice A k c ∧ ∀ e sz m f, mem id = .row ver e sz m f → n ≤ m ∧ u = slv (bl id) n := by
  cases h with
  | fz h => cases h
  | sl A k c _ _ _ hle hh => exact ⟨A, k, c, rfl, hh⟩
theorem VV.ptr_inv {id ver o : Nat} (h : VV w F bl mem u (.ptr id ver o)) : ∃ A, u = .pointer A ∧ ∀ cs, mem id = .var ver cs → ∃ b c, bl id = .blk b c ∧ u = .pointer (some ⟨b, o, none⟩) := by
  cases h with
  | fz h => cases h
  | ptr A _ _ _ hle hh => exact ⟨A, rfl, fun cs hm => by obtain ⟨b, c, h1, rfl⟩ := hh cs hm; exact ⟨b, c, h1, rfl⟩⟩
theorem VV.rp_inv {id ver i o : Nat} (h : VV w F bl mem u (.rp id ver i o)) : ∃ A, u = .pointer A ∧ ∀ e sz m f, mem id = .row ver e sz m f → ∃ b c, bl id = .blk b c ∧ i < m ∧ u = .pointer (some ⟨b, i * sz + o, none⟩) := by
  cases h with
  | fz h => cases h
  | rp A _ _ _ _ hle hh => exact ⟨A, rfl, fun e sz m f hm => by obtain ⟨b, c, h1, h2, rfl⟩ := hh e sz m f hm; exact ⟨b, c, h1, h2, rfl⟩⟩
theorem VV.mp_inv {id ver : Nat} (h : VV w F bl mem u (.mp id ver)) : ∃ r, u = .map r ∧ ∀ d k p g, mem id = .map ver d k p g → ∃ b c, bl id = .blk b c ∧ u = .map (some b) := by
  cases h with
  | fz h => cases h
  | mp r _ _ hle hh => exact ⟨r, rfl, fun d k p g hm => by obtain ⟨b, c, h1, rfl⟩ := hh d k p g hm; exact ⟨b, c, h1, rfl⟩⟩
theorem VV.it_inv {id ver : Nat} (h : VV w F bl mem u (.it id ver)) : ∃ r, u = .pointer r ∧ ∀ d k p g cur, mem id = .iter ver d k p g cur → ∃ b c, bl id = .blk b c ∧ u = .pointer (some ⟨b, 0, none⟩) := by
  cases h with
  | fz h => cases h
  | it r _ _ hle hh => exact ⟨r, rfl, fun d k p g cur hm => by obtain ⟨b, c, h1, rfl⟩ := hh d k p g cur hm; exact ⟨b, c, h1, rfl⟩⟩
theorem VV.sk_inv {id ver o n : Nat} (h : VV w F bl mem u (.sk id ver o n)) : ∃ A k c, u = .slice A k c ∧ ∀ e sz m f, mem id = .row ver e sz m f → o + n ≤ m ∧ k = n ∧ (0 < n → ∃ b c', bl id = .blk b c' ∧ A = some ⟨b, o * sz, none⟩) := by
  cases h with
  | fz h => cases h
  | sk A k c _ _ _ _ hle hh => exact ⟨A, k, c, rfl, hh⟩
theorem VV.vs_inv {id ver n : Nat} (h : VV w F bl mem u (.vs id ver n)) : ∃ A k c, u = .slice A k c ∧ ∀ e sz m f, mem id = .vrow ver e sz m f → n ≤ m ∧ u = slv (bl id) n := by
  cases h with
  | fz h => cases h
  | vs A k c _ _ _ hle hh => exact ⟨A, k, c, rfl, hh⟩
theorem VV.vp_inv {id ver i o : Nat} (h : VV w F bl mem u (.vp id ver i o)) : ∃ A, u = .pointer A ∧ ∀ e sz m f, mem id = .vrow ver e sz m f → ∃ b c, bl id = .blk b c ∧ i < m ∧ u = .pointer (some ⟨b, i * sz + o, none⟩) := by
  cases h with
  | fz h => cases h
  | vp A _ _ _ _ hle hh => exact ⟨A, rfl, fun e sz m f hm => by obtain ⟨b, c, h1, h2, rfl⟩ := hh e sz m f hm; exact ⟨b, c, h1, h2, rfl⟩⟩
theorem VV.vs_le {id ver n : Nat} (h : VV w F bl mem u (.vs id ver n)) : ver ≤ (mem id).ver := by
  cases h with
  | fz h => cases h
  | vs A k c _ _ _ hle hh => exact hle
theorem VV.vp_le {id ver i n : Nat} (h : VV w F bl mem u (.vp id ver i n)) : ver ≤ (mem id).ver := by
  cases h with
  | fz h => cases h
  | vp A _ _ _ _ hle hh => exact hle
theorem VV.sl_le {id ver n : Nat} (h : VV w F bl mem u (.sl id ver n)) : ver ≤ (mem id).ver := by
  cases h with
  | fz h => cases h
  | sl A k c _ _ _ hle hh => exact hle
theorem VV.ptr_le {id ver n : Nat} (h : VV w F bl mem u (.ptr id ver n)) : ver ≤ (mem id).ver := by
  cases h with
  | fz h => cases h
  | ptr A _ _ _ hle hh => exact hle
theorem VV.rp_le {id ver i n : Nat} (h : VV w F bl mem u (.rp id ver i n)) : ver ≤ (mem id).ver := by
  cases h with
  | fz h => cases h
  | rp A _ _ _ _ hle hh => exact hle
theorem VV.agg_inv {cs : List AV} (h : VV w F bl mem u (.agg cs)) : ∃ vs : Array Value, u = .agg vs ∧ vs.size = cs.length ∧ ∀ j, j < cs.length → VV w F bl mem (vs.getD j undef) (cs.getD j .undef) := by
  cases h with
  | fz h => cases h with | agg vs _ hl hr => exact ⟨vs, rfl, hl, fun j hj => .fz (hr j hj)⟩
  | agg vs _ hl hr => exact ⟨vs, rfl, hl, hr⟩
theorem VV.tup_inv {cs : List AV} (h : VV w F bl mem u (.tup cs)) : ∃ vs : Array Value, u = .tuple vs ∧ vs.size = cs.length ∧ ∀ j, j < cs.length → VV w F bl mem (vs.getD j undef) (cs.getD j .undef) := by
  cases h with
  | fz h => cases h with | tup vs _ hl hr => exact ⟨vs, rfl, hl, fun j hj => .fz (hr j hj)⟩
  | tup vs _ hl hr => exact ⟨vs, rfl, hl, hr⟩
theorem VV.fn_inv {f : Nat} {cs : List AV} (h : VV w F bl mem u (.fn f cs)) : ∃ vs : Array Value, u = .func (.func f) #[] vs ∧ vs.size = cs.length ∧ ∀ j, j < cs.length → VV w F bl mem (vs.getD j undef) (cs.getD j .undef) := by
  cases h with
  | fz h => cases h with | fn _ vs _ hl hr => exact ⟨vs, rfl, hl, fun j hj => .fz (hr j hj)⟩
  | fn _ vs _ hl hr => exact ⟨vs, rfl, hl, hr⟩

theorem FV.cvs (v : Value) : FV w F v (cvs v) := by
  unfold Go.Ab.cvs
  split <;> constructor

theorem VV.opd {a : Act} {env : Env} (hv : ∀ k, VV w F bl mem (a.tmps.getD k Go.undef) (env k)) (x : Operand) : VV w F bl mem (a.eval x) ((Opd.of x).ev env) := by
  cases x with
  | tmp t => exact hv t
  | const v => exact .fz (FV.cvs v)
  | global g => exact .fz (.undef _)
  | func f => exact .fz (.fn f #[] [] rfl (fun j hj => by simp at hj))

theorem VV.cells_size {v : Value} {a : AV} (h : VV w F bl mem v a) (ho : a.okv = true) : v.cells.size = a.cells.length := by
  cases a with
  | agg cs => obtain ⟨vs, rfl, hl, _⟩ := h.agg_inv; exact hl
  | undef => cases ho
  | tup => cases ho
  | _ =>
    have hc : v.cells = #[v] := by
      first
        | (cases h with | fz h => cases h <;> rfl)
        | (obtain ⟨_, _, _, rfl, _⟩ := h.sl_inv; rfl)
        | (obtain ⟨_, rfl, _⟩ := h.ptr_inv; rfl)
        | (obtain ⟨_, rfl, _⟩ := h.rp_inv; rfl)
        | (obtain ⟨_, _, _, rfl, _⟩ := h.vs_inv; rfl)
        | (obtain ⟨_, _, _, rfl, _⟩ := h.sk_inv; rfl)
        | (obtain ⟨_, rfl, _⟩ := h.vp_inv; rfl)
        | (obtain ⟨_, rfl, _⟩ := h.mp_inv; rfl)
        | (obtain ⟨_, rfl, _⟩ := h.fn_inv; rfl)
        | (cases h with | fz h => cases h | mp => rfl)
        | (cases h with | fz h => cases h | it => rfl)
    rw [hc]; rfl

/-- The cells of a value. -/
theorem VV.cellsOf {v : Value} {a : AV} (h : VV w F bl mem v a) (hs : v.cells.size = a.cells.length) : ∀ j, j < a.cells.length → VV w F bl mem (v.cells.getD j Go.undef) (a.cells.getD j .undef) := by
  intro j hj
  cases a with
  | agg cs =>
    obtain ⟨vs, rfl, hl, hr⟩ := h.agg_inv
    exact hr j hj
  | undef => simp only [AV.cells, List.length_singleton] at hj; obtain rfl : j = 0 := by omega
             simp only [AV.cells, List.getD_cons_zero]; exact .fz (.undef _)
  | _ =>
    simp only [AV.cells, List.length_singleton] at hj hs
    obtain rfl : j = 0 := by omega
    have hc : v.cells = #[v] := by
      first
        | (cases h with | fz h => cases h <;> rfl)
        | (obtain ⟨_, _, _, rfl, _⟩ := h.sl_inv; rfl)
        | (obtain ⟨_, rfl, _⟩ := h.ptr_inv; rfl)
        | (obtain ⟨_, rfl, _⟩ := h.rp_inv; rfl)
        | (obtain ⟨_, _, _, rfl, _⟩ := h.vs_inv; rfl)
        | (obtain ⟨_, _, _, rfl, _⟩ := h.sk_inv; rfl)
        | (obtain ⟨_, rfl, _⟩ := h.vp_inv; rfl)
        | (obtain ⟨_, rfl, _⟩ := h.mp_inv; rfl)
        | (obtain ⟨_, rfl, _⟩ := h.tup_inv; rfl)
        | (obtain ⟨_, rfl, _⟩ := h.fn_inv; rfl)
        | (cases h with | fz h => cases h | mp => rfl)
        | (cases h with | fz h => cases h | it => rfl)
    rw [hc]
    simpa [AV.cells] using h
end
end Go.Ab
namespace Go.Ab
open Go
def tsize (P : Program) (t : TypeId) : Option Nat := (P.info? t).map (·.size)
def aggT (P : Program) (t : TypeId) : Bool := match P.underlying t with | some (.struct _) | some (.array _ _) => true | _ => false
def fieldOf (P : Program) (s : TypeId) (i : Nat) : Option Field := match P.underlying s with | some (.struct fs) => fs[i]? | _ => none

def compParts (places : List (Nat × Nat)) : List (Nat × Operand) → Option (List (Nat × Nat × Opd))
  | [] => some []
  | (i, x) :: rest => match places[i]?, compParts places rest with
    | some (off, n), some r => some ((off, n, Opd.of x) :: r)
    | _, _ => none

def compPartsA (sz : Nat) : List (Nat × Operand) → List (Nat × Nat × Opd)
  | [] => []
  | (i, x) :: rest => (i * sz, sz, Opd.of x) :: compPartsA sz rest

def compB (P : Program) (b : Builtin) (args : List Operand) (ts : List TypeId) : Option AI :=
  match b, args, ts with
  | .len, [x], [t] => match P.underlying t with
    | some (.slice _) => some (.len (Opd.of x))
    | some .string => some (.slen (Opd.of x))
    | _ => none
  | .max, [x, y], _ => some (.mx (Opd.of x) (Opd.of y))
  | .min, [x, y], _ => some (.mn (Opd.of x) (Opd.of y))
  | _, _, _ => none

def compV (P : Program) (op : Op) : Option AI :=
  match op with
  | .move x | .assign x => some (.mv (Opd.of x))
  | .nilCheck x => some (.nilck (Opd.of x))
  | .pick c a b => some (.pick (Opd.of c) (Opd.of a) (Opd.of b))
  | .binOp op t x y _ => match P.underlying t with
    | some (.int _) => some (.bin op (Opd.of x) (Opd.of y))
    | some .string => some (.sbin op (Opd.of x) (Opd.of y))
    | some .bool => match op with
      | .eql => some (.beq false (Opd.of x) (Opd.of y))
      | .neq => some (.beq true (Opd.of x) (Opd.of y))
      | _ => none
    | _ => none
  | .unOp op _ x => match op with
    | .not => some (.not (Opd.of x))
    | .neg => some (.neg (Opd.of x))
    | .xor => some (.bnot (Opd.of x))
    | .plus => none
  | .convert s d x => match P.underlying s, P.underlying d with
    | some (.int _), some (.int k) => some (.conv k (Opd.of x))
    | _, _ => none
  | .fieldAddr s x f => match fieldOf P s f with
    | some fd => match tsize P fd.type with
      | some (_ + 1) => some (.fld fd.offset (Opd.of x))
      | _ => none
    | none => none
  | .indexAddr t x i => match P.underlying t with
    | some (.slice e) => match tsize P e with
      | some sz => some (.idx sz (Opd.of x) (Opd.of i))
      | none => none
    | some (.array len e) => match tsize P e with
      | some sz => some (.aidx sz len (Opd.of x) (Opd.of i))
      | none => none
    | _ => none
  | .index t x i => match P.underlying t with
    | some .string => some (.sidx (Opd.of x) (Opd.of i))
    | some (.array len e) => match P.underlying e, tsize P e with
      | some .bool, some 1 => some (.avx len (Opd.of x) (Opd.of i))
      | some (.int _), some 1 => some (.avx len (Opd.of x) (Opd.of i))
      | _, _ => none
    | _ => none
  | .load t x => match P.underlying t, tsize P t with
    | some _, some n => some (.load n (aggT P t) (Opd.of x))
    | _, _ => none
  | .field t x f => match fieldOf P t f with
    | some fd => match P.underlying fd.type, tsize P fd.type with
      | some _, some n => some (.fieldv fd.offset n (aggT P fd.type) (Opd.of x))
      | _, _ => none
    | none => none
  | .extract x i => some (.ext i (Opd.of x))
  | .build t parts => match P.info? t, P.underlying t with
    | some it, some (.struct fs) => match it.zero, fs.toList.mapM (fun f => (P.info? f.type).map fun i => (f.offset, i.size)) with
      | some z, some places => (compParts places parts.toList).map fun ps => .build (cvl z) ps
      | _, _ => none
    | some it, some (.array _ e) => match it.zero, P.info? e with
      | some z, some ie => some (.build (cvl z) (compPartsA ie.size parts.toList))
      | _, _ => none
    | _, _ => none
  | .makeFunc (.func f) first caps => bif Nat.beq first.size 0 then some (.mkfn f (caps.toList.map Opd.of)) else none
  | .slice t x lo hi none => match P.underlying t with
    | some (.slice e) => match tsize P e with
      | some sz => some (.slc sz (Opd.of x) (lo.map Opd.of) (hi.map Opd.of))
      | none => none
    | some .string => some (.sslc (Opd.of x) (lo.map Opd.of) (hi.map Opd.of))
    | _ => none
  | .call c => match c.callee with
    | .builtin b => compB P b c.args.toList c.argTypes.toList
    | _ => none
  | _ => none

section
variable {P : Program} {w : World} {F : Nat → Prop} {bl : Nat → Loc} {mem : Mem} {a : Act} {env : Env}

/-- What is shown of an instruction that turns nothing. -/
def Yld (P : Program) (w : World) (F : Nat → Prop) (bl : Nat → Loc) (mem : Mem) (a : Act) (o : Oper) (v : AV) : Prop :=
  ∃ u, (execOp a.eval o).run P w = .ok (.value u) w ∧ VV w F bl mem u v

theorem run_v {s : Sem Value} {u : Value} {w w' : World} (h : s.run P w = .ok u w') : (Bind.bind s fun x => Pure.pure (Next.value x)).run P w = .ok (.value u) w' := by
  simp [h]

theorem run_binI {op : BinOp} {k k' : IntKind} {x y : Int} {c : Prop} {v : AV} (t : TypeId) (h : binI op k x k' y = some (c, v)) (hc : c) : ∃ u, (binOp op t (.int k x) (.int k' y)).run P w = .ok u w ∧ FV w F u v := by
  cases op <;> simp only [binI] at h
  case shl => cases h; exact ⟨_, by simp [binOp, Op.shift, Int.not_lt.2 hc], .int _ _⟩
  case shr => cases h; exact ⟨_, by simp [binOp, Op.shift, Int.not_lt.2 hc], .int _ _⟩
  all_goals
    cases hk : kEq k k' with
    | false => rw [hk] at h; cases h
    | true =>
      rw [hk] at h
      have hk' := kEq_eq hk
      subst hk'
      cases h
      first
        | (refine ⟨_, ?_, .int _ _⟩; simp [binOp, Op.intArith]; done)
        | (have hz : ¬ y = 0 := hc; refine ⟨_, ?_, .int _ _⟩; simp only [binOp, ne_eq, not_true, if_false, Op.intDiv, if_neg hz]; rfl)
        | (refine ⟨_, ?_, .int _ _⟩; simp [binOp, Op.intBits, bitop]; done)
        | (refine ⟨_, ?_, .bool _⟩; simp only [binOp, Op.intCmp, ne_eq, not_true, if_false]; rfl)

theorem run_binS {op : BinOp} {x y : ByteArray} {c : Prop} {v : AV} (t : TypeId) (h : binS op x y = some (c, v)) (hc : c) : ∃ u, (binOp op t (.string x) (.string y)).run P w = .ok u w ∧ FV w F u v := by
  cases op <;> simp only [binS] at h
  case add =>
    cases h
    refine ⟨_, ?_, .str _⟩
    have : ¬ ((x.size + y.size : Nat) : Int) > IntKind.i64.max := by simp only [IntKind.max, IntKind.signed, IntKind.bits]; simp; omega
    simp only [binOp, Op.stringOp, if_neg this]
    rfl
  case eql => cases h; exact ⟨_, by simp [binOp, Op.stringOp], .bool _⟩
  case neq => cases h; exact ⟨_, by simp [binOp, Op.stringOp], .bool _⟩
  all_goals cases h

theorem run_eqGuard_int (op : BinOp) (t : TypeId) (x y : Operand) (k k' : IntKind) (m n : Int) : (eqGuard op t x y (.int k m) (.int k' n)).run P w = .ok () w := by
  unfold eqGuard
  cases op <;> simp
theorem run_eqGuard_str (op : BinOp) (t : TypeId) (x y : Operand) (m n : ByteArray) : (eqGuard op t x y (.string m) (.string n)).run P w = .ok () w := by
  unfold eqGuard
  cases op <;> simp
theorem run_eqGuard_bool (op : BinOp) (t : TypeId) (x y : Operand) (m n : Bool) : (eqGuard op t x y (.bool m) (.bool n)).run P w = .ok () w := by
  unfold eqGuard
  cases op <;> simp

theorem add_block (ad : Addr) (j : Nat) : (ad.add j).block = ad.block := by unfold Addr.add; split <;> rfl
theorem add_add (ad : Addr) (i j : Nat) : (ad.add i).add j = ad.add (i + j) := by
  unfold Addr.add
  split <;> split <;> simp_all <;> omega
theorem add_lit (b o j : Nat) : (⟨b, o, none⟩ : Addr).add j = ⟨b, o + j, none⟩ := by unfold Addr.add; split <;> simp_all
theorem add_zero (ad : Addr) : ad.add 0 = ad := by unfold Addr.add; simp

/-- A run of cells is loaded. -/
theorem run_loadVar_cells {t : TypeId} {d : TypeDesc} {n : Nat} (hu : P.underlying t = some d) (hs : tsize P t = some n) {ad : Addr} {val : Nat → Value} {cs : List AV} {v : AV}
    (hp : part? n (aggT P t) cs = some v) (hc : ∀ j, j < cs.length → w.cell? (ad.add j) = some (val j)) (hr : ∀ j, j < cs.length → VV w F bl mem (val j) (cs.getD j .undef)) :
    ∃ u, (loadVar t ad).run P w = .ok u w ∧ VV w F bl mem u v := by
  obtain ⟨i, hi, hin⟩ := Option.map_eq_some_iff.1 hs
  cases hg : aggT P t with
  | true =>
    rw [hg] at hp
    simp only [part?] at hp
    cases hb : Nat.ble n cs.length with
    | false => rw [hb] at hp; cases hp
    | true =>
      rw [hb] at hp
      cases hp
      have hle : n ≤ cs.length := Nat.le_of_ble_eq_true hb
      have hl := run_loadCells (P := P) w ad n val (fun j hj => hc j (by omega))
      have hagg : (isAgg t).run P w = .ok true w := by
        unfold aggT at hg
        rw [hu] at hg
        cases d <;> simp_all [isAgg, run_underlying hu]
      refine ⟨.agg ((List.range n).map val).toArray, by simp [loadVar, hagg, sizeOf, typeInfo, hi, hin, hl], ?_⟩
      refine .agg _ _ (by simp; omega) (fun j hj => ?_)
      have hjn : j < n := by simp at hj; omega
      have := hr j (by omega)
      simpa [hjn, List.getD_eq_getElem?_getD, List.getElem?_take] using this
  | false =>
    rw [hg] at hp
    simp only [part?] at hp
    cases cs with
    | nil => cases hp
    | cons x rest =>
      cases hp
      have h0 := hc 0 (by simp)
      have hagg : (isAgg t).run P w = .ok false w := by
        unfold aggT at hg
        rw [hu] at hg
        cases d <;> simp_all [isAgg, run_underlying hu]
      rw [add_zero] at h0
      exact ⟨val 0, by simp [loadVar, hagg, run_load, h0], by simpa using hr 0 (by simp)⟩

theorem getD_drop (cs : List AV) (o j : Nat) : (cs.drop o).getD j .undef = cs.getD (o + j) .undef := by
  simp [List.getD_eq_getElem?_getD, List.getElem?_drop]

end
end Go.Ab
namespace Go.Ab
open Go
section
variable {P : Program} {X Y : Nat → Prop} {w0 w : World} {F : Nat → Prop} {bl : Nat → Loc} {mem : Mem} {a : Act} {env : Env} {o : Oper}

/-! ### filling the cells of a struct -/
theorem fold_cells (off : Nat) : ∀ (l : List Value) (i : Nat) (cells : Array Value), off + i + l.length ≤ cells.size →
    ((l.zipIdx i).foldl (fun cs (x : Value × Nat) => cs.setIfInBounds (off + x.2) x.1) cells).size = cells.size ∧
    ∀ k, ((l.zipIdx i).foldl (fun cs (x : Value × Nat) => cs.setIfInBounds (off + x.2) x.1) cells).getD k undef = if off + i ≤ k ∧ k < off + i + l.length then l.getD (k - (off + i)) undef else cells.getD k undef
  | [], i, cells, _ => by simp; intro k h1 h2; omega
  | v :: rest, i, cells, h => by
    simp only [List.zipIdx_cons, List.foldl_cons]
    simp only [List.length_cons] at h ⊢
    obtain ⟨h1, h2⟩ := fold_cells off rest (i + 1) (cells.setIfInBounds (off + i) v) (by simp; omega)
    refine ⟨by rw [h1]; simp, fun k => ?_⟩
    rw [h2 k]
    by_cases hk : k = off + i
    · subst hk
      rw [if_neg (by omega), if_pos (by omega)]
      have hlt : off + i < cells.size := by omega
      simp [hlt]
    · by_cases hk2 : off + (i + 1) ≤ k ∧ k < off + (i + 1) + rest.length
      · rw [if_pos hk2, if_pos (by omega)]
        rw [show k - (off + i) = (k - (off + (i + 1))) + 1 by omega, List.getD_cons_succ]
      · rw [if_neg hk2, if_neg (by omega)]
        have : (cells.setIfInBounds (off + i) v)[k]? = cells[k]? := Array.getElem?_setIfInBounds_ne (by omega)
        simp [this]

theorem getD_seg (cs ds : List AV) (off n k : Nat) (hd : ds.length = n) (h : off + n ≤ cs.length) :
    (cs.take off ++ ds ++ cs.drop (off + n)).getD k .undef = if off ≤ k ∧ k < off + n then ds.getD (k - off) .undef else cs.getD k .undef := by
  simp only [List.getD_eq_getElem?_getD]
  by_cases h1 : off ≤ k ∧ k < off + n
  · rw [if_pos h1, List.append_assoc, List.getElem?_append_right (by simp; omega), List.getElem?_append_left (by simp; omega)]
    congr 2
    simp; omega
  · rw [if_neg h1]
    by_cases h2 : k < off
    · rw [List.append_assoc, List.getElem?_append_left (by simp; omega), List.getElem?_take, if_pos h2]
    · rw [List.getElem?_append_right (by simp; omega), List.getElem?_drop]
      congr 2
      simp; omega

theorem fill_sound (places : List (Nat × Nat)) (hv : ∀ k, VV w F bl mem (a.tmps.getD k undef) (env k)) : ∀ (parts : List (Nat × Operand)) (ps : List (Nat × Nat × Opd)) (cells : Array Value) (cs cs' : List AV),
    compParts places parts = some ps → cells.size = cs.length → (∀ j, j < cs.length → VV w F bl mem (cells.getD j undef) (cs.getD j .undef)) → fillA env ps cs = some cs' →
    ∃ cells', Instr.fill (places.toArray[·]?) cells (parts.map fun (i, x) => (i, a.eval x)) = some cells' ∧ cells'.size = cs'.length ∧ ∀ j, j < cs'.length → VV w F bl mem (cells'.getD j undef) (cs'.getD j .undef)
  | [], ps, cells, cs, cs', hp, hs, hr, hf => by
    simp only [compParts, Option.some.injEq] at hp
    subst hp
    simp only [fillA, Option.some.injEq] at hf
    subst hf
    exact ⟨cells, by simp [Instr.fill], hs, hr⟩
  | (i, x) :: rest, ps, cells, cs, cs', hp, hs, hr, hf => by
    simp only [compParts] at hp
    split at hp
    · rename_i off n r hpl hrest
      cases hp
      simp only [fillA] at hf
      cases hb : ((Opd.of x).ev env).okv && Nat.beq ((Opd.of x).ev env).cells.length n && Nat.ble (off + n) cs.length with
      | false => rw [hb] at hf; cases hf
      | true =>
        rw [hb] at hf
        simp only [Bool.and_eq_true] at hb
        obtain ⟨⟨h1, h2⟩, h3⟩ := hb
        have h2' := Nat.eq_of_beq_eq_true h2
        have h3' := Nat.le_of_ble_eq_true h3
        have hx := VV.opd hv x
        have hsz := hx.cells_size h1
        have hcl := hx.cellsOf hsz
        have hfc := fold_cells off (a.eval x).cells.toList 0 cells (by simp; omega)
        have hrr : ∀ j, j < (cs.take off ++ ((Opd.of x).ev env).cells ++ cs.drop (off + n)).length → VV w F bl mem ((((a.eval x).cells.toList.zipIdx 0).foldl (fun cs (x : Value × Nat) => cs.setIfInBounds (off + x.2) x.1) cells).getD j undef) ((cs.take off ++ ((Opd.of x).ev env).cells ++ cs.drop (off + n)).getD j .undef) := fun j hj => by
          rw [hfc.2 j, getD_seg cs _ off n j h2' h3']
          simp only [Nat.add_zero, Array.length_toList]
          rw [hsz, h2']
          by_cases hj2 : off ≤ j ∧ j < off + n
          · rw [if_pos hj2, if_pos hj2]
            have := hcl (j - off) (by omega)
            simpa [List.getD_eq_getElem?_getD] using this
          · rw [if_neg hj2, if_neg hj2]
            exact hr j (by simp at hj; omega)
        obtain ⟨cells', e1, e2, e3⟩ := fill_sound places hv rest r _ _ cs' hrest (by rw [hfc.1]; simp; omega) hrr hf
        refine ⟨cells', ?_, e2, e3⟩
        simp only [List.map_cons, Instr.fill]
        have hpl' : places.toArray[i]? = some (off, n) := by simpa using hpl
        simp only [hpl']
        rw [if_neg (by simp [hsz, h2']; omega), ← Array.foldl_toList, Array.toList_zipIdx]
        exact e1
    · cases hp

theorem fill_soundA (sz : Nat) (hv : ∀ k, VV w F bl mem (a.tmps.getD k undef) (env k)) : ∀ (parts : List (Nat × Operand)) (ps : List (Nat × Nat × Opd)) (cells : Array Value) (cs cs' : List AV),
    compPartsA sz parts = ps → cells.size = cs.length → (∀ j, j < cs.length → VV w F bl mem (cells.getD j undef) (cs.getD j .undef)) → fillA env ps cs = some cs' →
    ∃ cells', Instr.fill (fun i => some (i * sz, sz)) cells (parts.map fun (i, x) => (i, a.eval x)) = some cells' ∧ cells'.size = cs'.length ∧ ∀ j, j < cs'.length → VV w F bl mem (cells'.getD j undef) (cs'.getD j .undef)
  | [], ps, cells, cs, cs', hp, hs, hr, hf => by
    simp only [compPartsA] at hp
    subst hp
    simp only [fillA, Option.some.injEq] at hf
    subst hf
    exact ⟨cells, by simp [Instr.fill], hs, hr⟩
  | (i, x) :: rest, ps, cells, cs, cs', hp, hs, hr, hf => by
    simp only [compPartsA] at hp
    subst hp
    simp only [fillA] at hf
    cases hb : ((Opd.of x).ev env).okv && Nat.beq ((Opd.of x).ev env).cells.length sz && Nat.ble (i * sz + sz) cs.length with
    | false => rw [hb] at hf; cases hf
    | true =>
      rw [hb] at hf
      simp only [Bool.and_eq_true] at hb
      obtain ⟨⟨h1, h2⟩, h3⟩ := hb
      have h2' := Nat.eq_of_beq_eq_true h2
      have h3' := Nat.le_of_ble_eq_true h3
      have hx := VV.opd hv x
      have hsz := hx.cells_size h1
      have hcl := hx.cellsOf hsz
      have hfc := fold_cells (i * sz) (a.eval x).cells.toList 0 cells (by simp; omega)
      have hrr : ∀ j, j < (cs.take (i * sz) ++ ((Opd.of x).ev env).cells ++ cs.drop (i * sz + sz)).length → VV w F bl mem ((((a.eval x).cells.toList.zipIdx 0).foldl (fun cs (x : Value × Nat) => cs.setIfInBounds (i * sz + x.2) x.1) cells).getD j undef) ((cs.take (i * sz) ++ ((Opd.of x).ev env).cells ++ cs.drop (i * sz + sz)).getD j .undef) := fun j hj => by
        rw [hfc.2 j, getD_seg cs _ (i * sz) sz j h2' h3']
        simp only [Nat.add_zero, Array.length_toList]
        rw [hsz, h2']
        by_cases hj2 : i * sz ≤ j ∧ j < i * sz + sz
        · rw [if_pos hj2, if_pos hj2]
          have := hcl (j - i * sz) (by omega)
          simpa [List.getD_eq_getElem?_getD] using this
        · rw [if_neg hj2, if_neg hj2]
          exact hr j (by simp at hj; omega)
      obtain ⟨cells', e1, e2, e3⟩ := fill_soundA sz hv rest _ _ _ cs' rfl (by rw [hfc.1]; simp; omega) hrr hf
      refine ⟨cells', ?_, e2, e3⟩
      simp only [List.map_cons, Instr.fill]
      rw [if_neg (by simp [hsz, h2']; omega), ← Array.foldl_toList, Array.toList_zipIdx]
      exact e1

theorem cvl_sound (z : Value) : ∀ j, j < (cvl z).length → VV w F bl mem (z.cells.getD j undef) ((cvl z).getD j .undef) := by
  intro j hj
  simp only [cvl, List.length_map, Array.length_toList] at hj
  have : (cvl z).getD j .undef = cvs (z.cells.getD j undef) := by simp [cvl, List.getD_eq_getElem?_getD, hj]
  rw [this]
  exact .fz (FV.cvs _)

/-! ### reading memory -/
theorem cells_le {i m sz o n : Nat} (hi : i < m) (ho : o + n ≤ sz) : i * sz + o + n ≤ m * sz := by
  have : (i + 1) * sz ≤ m * sz := Nat.mul_le_mul_right sz hi
  rw [Nat.add_mul, Nat.one_mul] at this
  omega

/-- The cells behind a pointer, and what they stand for. -/
theorem read_sound (hw : WS X Y w0 w bl mem) {x : Value} {v : AV} (hx : VV w (Fr X w bl mem) bl mem x v) :
    (∀ id ver ofs cs, v = .ptr id ver ofs → mem id = .var ver cs → ∃ (ad : Addr) (val : Nat → Value), x = .pointer (some ad) ∧ (∀ j, j < (cs.drop ofs).length → w.cell? (ad.add j) = some (val j)) ∧ ∀ j, j < (cs.drop ofs).length → VV w (Fr X w bl mem) bl mem (val j) ((cs.drop ofs).getD j .undef)) ∧
    (∀ id ver i ofs e sz m f, v = .rp id ver i ofs → mem id = .row ver e sz m f → i < m → ∃ (ad : Addr) (val : Nat → Value), x = .pointer (some ad) ∧ (∀ j, j < ((f i).cells.drop ofs).length → w.cell? (ad.add j) = some (val j)) ∧ ∀ j, j < ((f i).cells.drop ofs).length → VV w (Fr X w bl mem) bl mem (val j) (((f i).cells.drop ofs).getD j .undef)) ∧
    (∀ cs, v = .fp cs → ∃ (ad : Addr) (val : Nat → Value), x = .pointer (some ad) ∧ (∀ j, j < cs.length → w.cell? (ad.add j) = some (val j)) ∧ ∀ j, j < cs.length → VV w (Fr X w bl mem) bl mem (val j) (cs.getD j .undef)) := by
  refine ⟨fun id ver ofs cs hv hm => ?_, fun id ver i ofs e sz m f hv hm hi => ?_, fun cs hv => ?_⟩
  · subst hv
    obtain ⟨b, c, hb, rfl⟩ := hx.ptr_inv.choose_spec.2 cs hm
    have ho := hw.obj id
    rw [hm, hb] at ho
    obtain ⟨b', c', arr, e, hl, hh, hs, hr⟩ := ho
    cases hl
    refine ⟨_, fun j => arr.getD (ofs + j) undef, rfl, fun j hj => ?_, fun j hj => ?_⟩
    · rw [add_lit, cell_of_row w b (ofs + j) arr e (0, 0) hh]
      have : ofs + j < arr.size := by simp at hj; omega
      simp [this]
    · rw [getD_drop]
      exact hr _ (by simp at hj; omega)
  · subst hv
    obtain ⟨b, c, hb, hi', rfl⟩ := hx.rp_inv.choose_spec.2 _ _ _ _ hm
    have ho := hw.obj id
    rw [hm, hb] at ho
    obtain ⟨h0, xs, hown, hr⟩ := ho
    obtain ⟨hl, hr'⟩ := hr i hi
    refine ⟨_, fun j => xs.getD (i * sz + (ofs + j)) undef, rfl, fun j hj => ?_, fun j hj => ?_⟩
    · have hj' : ofs + j < sz := by simp at hj; omega
      have hlt : i * sz + (ofs + j) < xs.length := by rw [hown.1]; have := cells_le (n := 1) hi (show (ofs + j) + 1 ≤ sz by omega); omega
      have := hown.cells (g := b) rfl (i * sz + (ofs + j)) (xs.getD (i * sz + (ofs + j)) undef) (by simp [List.getD_eq_getElem?_getD, hlt])
      rw [add_lit] at this ⊢
      rw [show i * sz + ofs + j = 0 + (i * sz + (ofs + j)) by omega]
      exact this
    · rw [getD_drop]
      exact .fz (hr' (ofs + j) (by simp at hj; omega))
  · subst hv
    cases hx with
    | fz h => cases h with
      | fp ad _ val hb hv hr => exact ⟨ad, val, rfl, hv, fun j hj => .fz (hr j hj)⟩

/-- The cells behind a pointer into a row whose elements may lead to own objects. -/
theorem read_soundV (hw : WS X Y w0 w bl mem) {x : Value} {v : AV} (hx : VV w (Fr X w bl mem) bl mem x v) (id ver i ofs e sz m : Nat) (f : Nat → AV) (hv : v = .vp id ver i ofs) (hm : mem id = .vrow ver e sz m f) (hi : i < m) :
    ∃ (ad : Addr) (val : Nat → Value), x = .pointer (some ad) ∧ (∀ j, j < ((f i).cells.drop ofs).length → w.cell? (ad.add j) = some (val j)) ∧ ∀ j, j < ((f i).cells.drop ofs).length → VV w (Fr X w bl mem) bl mem (val j) (((f i).cells.drop ofs).getD j .undef) := by
  subst hv
  obtain ⟨b, c, hb, hi', rfl⟩ := hx.vp_inv.choose_spec.2 _ _ _ _ hm
  have ho := hw.obj id
  rw [hm, hb] at ho
  obtain ⟨h0, xs, hown, hr⟩ := ho
  obtain ⟨hl, hr'⟩ := hr i hi
  refine ⟨_, fun j => xs.getD (i * sz + (ofs + j)) undef, rfl, fun j hj => ?_, fun j hj => ?_⟩
  · have hj' : ofs + j < sz := by simp at hj; omega
    have hlt : i * sz + (ofs + j) < xs.length := by rw [hown.1]; have := cells_le (n := 1) hi (show (ofs + j) + 1 ≤ sz by omega); omega
    have := hown.cells (g := b) rfl (i * sz + (ofs + j)) (xs.getD (i * sz + (ofs + j)) undef) (by simp [List.getD_eq_getElem?_getD, hlt])
    rw [add_lit] at this ⊢
    rw [show i * sz + ofs + j = 0 + (i * sz + (ofs + j)) by omega]
    exact this
  · rw [getD_drop]
    exact hr' (ofs + j) (by simp at hj; omega)
theorem run_arrAt {t e : TypeId} {len sz : Nat} (ht : P.underlying t = some (.array len e)) (hn : tsize P e = some sz) (ad : Addr) (k : IntKind) (j : Int) (h0 : 0 ≤ j) (h1 : j < len) :
    (Instr.indexAt t (.pointer (some ad)) (.int k j)).run P w = .ok (.pointer (some (ad.add (j.toNat * sz)))) w := by
  obtain ⟨i, hi, hin⟩ := Option.map_eq_some_iff.1 hn
  simp [Instr.indexAt, run_underlying ht, asIntOf, Instr.sureAddr, sizeOf, typeInfo, hi, hin, h0, h1]
theorem run_fieldAt {s : TypeId} {f : Nat} {fd : Field} {n : Nat} (hf : fieldOf P s f = some fd) (hn : tsize P fd.type = some (n + 1)) (ad : Addr) :
    (Instr.fieldAt s (.pointer (some ad)) f).run P w = .ok (.pointer (some (ad.add fd.offset))) w := by
  unfold fieldOf at hf
  split at hf
  · rename_i fs hu
    obtain ⟨i, hi, hin⟩ := Option.map_eq_some_iff.1 hn
    simp [Instr.fieldAt, run_underlying hu, hf, Instr.sureAddr, fieldPlace, sizeOf, typeInfo, hi, hin]
  · cases hf

theorem run_part {t : TypeId} {d : TypeDesc} {n : Nat} (hu : P.underlying t = some d) (hs : tsize P t = some n) {vs : Array Value} {cs : List AV} {ofs : Nat} {v : AV}
    (hl : vs.size = cs.length) (hr : ∀ j, j < cs.length → VV w F bl mem (vs.getD j undef) (cs.getD j .undef)) (hp : part? n (aggT P t) (cs.drop ofs) = some v) :
    ∃ u, (part t vs ofs).run P w = .ok u w ∧ VV w F bl mem u v := by
  obtain ⟨i, hi, hin⟩ := Option.map_eq_some_iff.1 hs
  cases hg : aggT P t with
  | true =>
    rw [hg] at hp
    simp only [part?] at hp
    cases hb : Nat.ble n (cs.drop ofs).length with
    | false => rw [hb] at hp; cases hp
    | true =>
      rw [hb] at hp
      cases hp
      have hle : n ≤ (cs.drop ofs).length := Nat.le_of_ble_eq_true hb
      have hagg : (isAgg t).run P w = .ok true w := by
        unfold aggT at hg
        rw [hu] at hg
        cases d <;> simp_all [isAgg, run_underlying hu]
      refine ⟨.agg (vs.extract ofs (ofs + n)), by simp [part, hagg, sizeOf, typeInfo, hi, hin], ?_⟩
      simp at hle
      refine .agg _ _ (by simp; omega) (fun j hj => ?_)
      have hjn : j < n := by simp at hj; omega
      have := hr (ofs + j) (by omega)
      have e1 : (vs.extract ofs (ofs + n)).getD j undef = vs.getD (ofs + j) undef := by
        have h1 : ofs + j < vs.size := by omega
        simp [Array.getElem?_extract, h1, show j < min (ofs + n) vs.size - ofs by omega]
      have e2 : ((cs.drop ofs).take n).getD j .undef = cs.getD (ofs + j) .undef := by
        simp [List.getD_eq_getElem?_getD, List.getElem?_take, hjn, List.getElem?_drop]
      rw [e1, e2]
      exact this
  | false =>
    rw [hg] at hp
    simp only [part?] at hp
    cases hcs : cs.drop ofs with
    | nil => rw [hcs] at hp; cases hp
    | cons y rest =>
      rw [hcs] at hp
      have hy : y = v := by simpa using hp
      rw [← hy]
      have hagg : (isAgg t).run P w = .ok false w := by
        unfold aggT at hg
        rw [hu] at hg
        cases d <;> simp_all [isAgg, run_underlying hu]
      have hlt : ofs < cs.length := by
        rcases Nat.lt_or_ge ofs cs.length with h | h
        · exact h
        · rw [List.drop_eq_nil_of_le h] at hcs; cases hcs
      have hv := hr ofs hlt
      have e1 : cs.getD ofs .undef = y := by
        have := getD_drop cs ofs 0
        rw [hcs] at this
        simpa using this.symm
      have hlt' : ofs < vs.size := by omega
      have e2 : vs[ofs]? = some (vs.getD ofs undef) := by rw [Array.getElem?_eq_getElem hlt', Array.getD_eq_getD_getElem?, Array.getElem?_eq_getElem hlt']; rfl
      rw [e1] at hv
      exact ⟨vs.getD ofs undef, by simp only [part, Sem.run_bind, hagg, Result.andThen_ok, e2]; rfl, hv⟩

end
end Go.Ab
