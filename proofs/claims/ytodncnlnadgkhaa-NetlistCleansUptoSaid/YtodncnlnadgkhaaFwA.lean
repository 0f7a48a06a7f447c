/- Abstract values and states for the walks: what a Go value stands for, apart from addresses, capacities and draws. -/
import Derived.WalkKit
import Derived.Laws.AppendOwn
import Derived.Laws.MakeOwn
set_option linter.unusedSimpArgs false
set_option linter.unusedVariables false
namespace Go.Ab
open Go

/-- An abstract value. 'fs': a slice that is only read, by its elements; 'sl': a slice over a row of the call's own; 'fp': a pointer to cells that are only read; 'ptr', 'rp': into a variable's, a row's cells. -/
inductive AV where
  | undef
  | int (k : IntKind) (n : Int)
  | bool (b : Bool)
  | str (s : ByteArray)
  | nilp
  | nilf
  | cap0
  | fs (n : Nat) (f : Nat → AV)
  | sl (id ver len : Nat)
  | fp (cs : List AV)
  | ptr (id ver off : Nat)
  | rp (id ver i off : Nat)
  | mp (id ver : Nat)
  | agg (cs : List AV)
  | tup (vs : List AV)
  | fn (f : Nat) (caps : List AV)
  | vs (id ver len : Nat)
  | vp (id ver i off : Nat)
  | sk (id ver off len : Nat)

instance : Inhabited AV := ⟨.undef⟩

def AV.cells : AV → List AV
  | .agg cs => cs
  | v => [v]

/-- May it stand in one cell? -/
def AV.isCell : AV → Bool
  | .undef | .agg _ | .tup _ => false
  | _ => true

inductive Loc where
  | none
  | blk (b cap : Nat)

/-- What a map's keys are. -/
inductive MK where
  | str
  | int (k : IntKind)
  | ints (ks : List IntKind)

/-- An object of the call's own. Its version grows whenever what led to it leads to it no more. -/
inductive AO where
  | dead (ver : Nat)
  | var (ver : Nat) (cs : List AV)
  | row (ver e sz n : Nat) (f : Nat → AV)
  | map (ver : Nat) (d : MK) (k : Option IntKind) (p : Value → Bool) (g : Value → Int)
  | vrow (ver e sz n : Nat) (f : Nat → AV)

def AO.ver : AO → Nat
  | .dead v => v
  | .var v _ => v
  | .row v _ _ _ _ => v
  | .map v _ _ _ _ => v
  | .vrow v _ _ _ _ => v

def AO.live : AO → Bool
  | .dead _ => false
  | _ => true

abbrev Mem := Nat → AO
abbrev Env := Nat → AV

def slv : Loc → Nat → Value
  | .none, _ => .slice none 0 0
  | .blk b c, n => .slice (some ⟨b, 0, none⟩) n c

/-- Data that is only read: its memory lies in the blocks F. -/
inductive FV (w : World) (F : Nat → Prop) : Value → AV → Prop
  | undef (v : Value) : FV w F v .undef
  | int (k : IntKind) (n : Int) : FV w F (.int k n) (.int k n)
  | bool (b : Bool) : FV w F (.bool b) (.bool b)
  | str (s : ByteArray) : FV w F (.string s) (.str s)
  | nilp : FV w F (.pointer none) .nilp
  | nilf : FV w F .nilFunc .nilf
  | cap0 : FV w F (.slice none 0 0) .cap0
  | fs0 (a : Option Addr) (c : Nat) (f : Nat → AV) : FV w F (.slice a 0 c) (.fs 0 f)
  | fs (ad : Addr) (n c sz : Nat) (f : Nat → AV) (val : Nat → Nat → Value) (hb : F ad.block) (hc : n ≤ c) (hsz : 0 < sz) (hl : ∀ i, i < n → (f i).cells.length = sz)
      (hv : ∀ i j, i < n → j < sz → w.cell? (ad.add (i * sz + j)) = some (val i j))
      (hr : ∀ i j, i < n → j < sz → FV w F (val i j) ((f i).cells.getD j .undef)) : FV w F (.slice (some ad) n c) (.fs n f)
  | fp (ad : Addr) (cs : List AV) (val : Nat → Value) (hb : F ad.block)
      (hv : ∀ j, j < cs.length → w.cell? (ad.add j) = some (val j))
      (hr : ∀ j, j < cs.length → FV w F (val j) (cs.getD j .undef)) : FV w F (.pointer (some ad)) (.fp cs)
  | agg (vs : Array Value) (cs : List AV) (hl : vs.size = cs.length) (hr : ∀ j, j < cs.length → FV w F (vs.getD j undef) (cs.getD j .undef)) : FV w F (.agg vs) (.agg cs)
  | tup (vs : Array Value) (cs : List AV) (hl : vs.size = cs.length) (hr : ∀ j, j < cs.length → FV w F (vs.getD j undef) (cs.getD j .undef)) : FV w F (.tuple vs) (.tup cs)
  | fn (g : Nat) (vs : Array Value) (cs : List AV) (hl : vs.size = cs.length) (hr : ∀ j, j < cs.length → FV w F (vs.getD j undef) (cs.getD j .undef)) : FV w F (.func (.func g) #[] vs) (.fn g cs)

theorem FV.mono {w w' : World} {F F' : Nat → Prop} (h : ∀ b, F b → F' b ∧ w'.heap[b]? = w.heap[b]?) {v : Value} {a : AV} (hv : FV w F v a) : FV w' F' v a := by
  induction hv with
  | undef v => exact .undef v
  | int k n => exact .int k n
  | bool b => exact .bool b
  | str s => exact .str s
  | nilp => exact .nilp
  | nilf => exact .nilf
  | cap0 => exact .cap0
  | fs0 a c f => exact .fs0 a c f
  | fs ad n c sz f val hb hc hsz hl hv hr ih =>
    refine .fs ad n c sz f val (h _ hb).1 hc hsz hl (fun i j hi hj => ?_) ih
    have e := hv i j hi hj
    have hbk : (ad.add (i * sz + j)).block = ad.block := by unfold Addr.add; split <;> rfl
    rw [World.cell?_of_block (w := w) (by rw [hbk]; exact (h _ hb).2)]
    exact e
  | fp ad cs val hb hv hr ih =>
    refine .fp ad cs val (h _ hb).1 (fun j hj => ?_) ih
    have e := hv j hj
    have hbk : (ad.add j).block = ad.block := by unfold Addr.add; split <;> rfl
    rw [World.cell?_of_block (w := w) (by rw [hbk]; exact (h _ hb).2)]
    exact e
  | agg vs cs hl hr ih => exact .agg vs cs hl ih
  | tup vs cs hl hr ih => exact .tup vs cs hl ih
  | fn g vs cs hl hr ih => exact .fn g vs cs hl ih

/-- Any value that the call may hold: data that is only read, and what leads to objects of its own (a reference of an elder version leads nowhere). -/
inductive VV (w : World) (F : Nat → Prop) (bl : Nat → Loc) (mem : Mem) : Value → AV → Prop
  | fz {v : Value} {a : AV} (h : FV w F v a) : VV w F bl mem v a
  | sl (A : Option Addr) (n c id ver len : Nat) (hle : ver ≤ (mem id).ver) (h : ∀ e sz m f, mem id = .row ver e sz m f → len ≤ m ∧ .slice A n c = slv (bl id) len) : VV w F bl mem (.slice A n c) (.sl id ver len)
  | ptr (A : Option Addr) (id ver off : Nat) (hle : ver ≤ (mem id).ver) (h : ∀ cs, mem id = .var ver cs → ∃ b c, bl id = .blk b c ∧ A = some ⟨b, off, none⟩) : VV w F bl mem (.pointer A) (.ptr id ver off)
  | rp (A : Option Addr) (id ver i off : Nat) (hle : ver ≤ (mem id).ver) (h : ∀ e sz m f, mem id = .row ver e sz m f → ∃ b c, bl id = .blk b c ∧ i < m ∧ A = some ⟨b, i * sz + off, none⟩) : VV w F bl mem (.pointer A) (.rp id ver i off)
  | vs (A : Option Addr) (n c id ver len : Nat) (hle : ver ≤ (mem id).ver) (h : ∀ e sz m f, mem id = .vrow ver e sz m f → len ≤ m ∧ .slice A n c = slv (bl id) len) : VV w F bl mem (.slice A n c) (.vs id ver len)
  | vp (A : Option Addr) (id ver i off : Nat) (hle : ver ≤ (mem id).ver) (h : ∀ e sz m f, mem id = .vrow ver e sz m f → ∃ b c, bl id = .blk b c ∧ i < m ∧ A = some ⟨b, i * sz + off, none⟩) : VV w F bl mem (.pointer A) (.vp id ver i off)
  | sk (A : Option Addr) (n c id ver off len : Nat) (hle : ver ≤ (mem id).ver) (h : ∀ e sz m f, mem id = .row ver e sz m f → off + len ≤ m ∧ n = len ∧ (0 < len → ∃ b c', bl id = .blk b c' ∧ A = some ⟨b, off * sz, none⟩)) : VV w F bl mem (.slice A n c) (.sk id ver off len)
  | mp (r : Option Nat) (id ver : Nat) (hle : ver ≤ (mem id).ver) (h : ∀ d k p g, mem id = .map ver d k p g → ∃ b c, bl id = .blk b c ∧ r = some b) : VV w F bl mem (.map r) (.mp id ver)
  | agg (vs : Array Value) (cs : List AV) (hl : vs.size = cs.length) (hr : ∀ j, j < cs.length → VV w F bl mem (vs.getD j undef) (cs.getD j .undef)) : VV w F bl mem (.agg vs) (.agg cs)
  | tup (vs : Array Value) (cs : List AV) (hl : vs.size = cs.length) (hr : ∀ j, j < cs.length → VV w F bl mem (vs.getD j undef) (cs.getD j .undef)) : VV w F bl mem (.tuple vs) (.tup cs)
  | fn (g : Nat) (vs : Array Value) (cs : List AV) (hl : vs.size = cs.length) (hr : ∀ j, j < cs.length → VV w F bl mem (vs.getD j undef) (cs.getD j .undef)) : VV w F bl mem (.func (.func g) #[] vs) (.fn g cs)

/-- The same object, in the same version: what may have become of it. -/
def Kept : AO → AO → Prop
  | .dead _, .dead _ => True
  | .var _ cs, .var _ cs' => cs'.length = cs.length
  | .row _ e sz n _, .row _ e' sz' n' _ => e' = e ∧ sz' = sz ∧ n ≤ n'
  | .map _ d k _ _, .map _ d' k' _ _ => d' = d ∧ k' = k
  | .vrow _ e sz n _, .vrow _ e' sz' n' _ => e' = e ∧ sz' = sz ∧ n ≤ n'
  | _, _ => False

theorem Kept.refl (o : AO) : Kept o o := by cases o <;> simp [Kept]

/-- From one memory to a later one. -/
def Later (mem mem' : Mem) (bl bl' : Nat → Loc) : Prop := ∀ id, (mem id).ver ≤ (mem' id).ver ∧ ((mem' id).ver = (mem id).ver → Kept (mem id) (mem' id) ∧ bl' id = bl id)

theorem Later.refl (mem : Mem) (bl : Nat → Loc) : Later mem mem bl bl := fun _ => ⟨Nat.le_refl _, fun _ => ⟨Kept.refl _, rfl⟩⟩

theorem VV.mono {w w' : World} {F F' : Nat → Prop} {bl bl' : Nat → Loc} {mem mem' : Mem} (h : ∀ b, F b → F' b ∧ w'.heap[b]? = w.heap[b]?)
    (hk : Later mem mem' bl bl') {v : Value} {a : AV} (hv : VV w F bl mem v a) : VV w' F' bl' mem' v a := by
  induction hv with
  | fz h1 => exact .fz (h1.mono h)
  | sl A n c id ver len hle hh =>
    obtain ⟨k1, k2⟩ := hk id
    refine .sl A n c id ver len (Nat.le_trans hle k1) (fun e sz m f hm' => ?_)
    have hv' : (mem' id).ver = ver := by rw [hm']; rfl
    obtain ⟨k3, k4⟩ := k2 (by omega)
    cases hm : mem id with
    | row v0 e0 sz0 n0 f0 =>
      have hv0 : v0 = ver := by have : (mem id).ver = v0 := by rw [hm]; rfl
                                omega
      rw [hm, hm'] at k3
      obtain ⟨rfl, rfl, k5⟩ := k3
      subst hv0
      obtain ⟨g1, g2⟩ := hh _ _ _ _ hm
      exact ⟨by omega, by rw [g2, k4]⟩
    | _ => rw [hm, hm'] at k3; exact k3.elim
  | ptr A id ver off hle hh =>
    obtain ⟨k1, k2⟩ := hk id
    refine .ptr A id ver off (Nat.le_trans hle k1) (fun cs hm' => ?_)
    have hv' : (mem' id).ver = ver := by rw [hm']; rfl
    obtain ⟨k3, k4⟩ := k2 (by omega)
    cases hm : mem id with
    | var v0 cs0 =>
      have hv0 : v0 = ver := by have : (mem id).ver = v0 := by rw [hm]; rfl
                                omega
      subst hv0
      obtain ⟨b, c, g1, g2⟩ := hh _ hm
      exact ⟨b, c, by rw [k4, g1], g2⟩
    | _ => rw [hm, hm'] at k3; exact k3.elim
  | rp A id ver i off hle hh =>
    obtain ⟨k1, k2⟩ := hk id
    refine .rp A id ver i off (Nat.le_trans hle k1) (fun e sz m f hm' => ?_)
    have hv' : (mem' id).ver = ver := by rw [hm']; rfl
    obtain ⟨k3, k4⟩ := k2 (by omega)
    cases hm : mem id with
    | row v0 e0 sz0 n0 f0 =>
      have hv0 : v0 = ver := by have : (mem id).ver = v0 := by rw [hm]; rfl
                                omega
      rw [hm, hm'] at k3
      obtain ⟨rfl, rfl, k5⟩ := k3
      subst hv0
      obtain ⟨b, c, g1, g2, g3⟩ := hh _ _ _ _ hm
      exact ⟨b, c, by rw [k4, g1], by omega, g3⟩
    | _ => rw [hm, hm'] at k3; exact k3.elim
  | vs A n c id ver len hle hh =>
    obtain ⟨k1, k2⟩ := hk id
    refine .vs A n c id ver len (Nat.le_trans hle k1) (fun e sz m f hm' => ?_)
    have hv' : (mem' id).ver = ver := by rw [hm']; rfl
    obtain ⟨k3, k4⟩ := k2 (by omega)
    cases hm : mem id with
    | vrow v0 e0 sz0 n0 f0 =>
      have hv0 : v0 = ver := by have : (mem id).ver = v0 := by rw [hm]; rfl
                                omega
      rw [hm, hm'] at k3
      obtain ⟨rfl, rfl, k5⟩ := k3
      subst hv0
      obtain ⟨g1, g2⟩ := hh _ _ _ _ hm
      exact ⟨by omega, by rw [g2, k4]⟩
    | _ => rw [hm, hm'] at k3; exact k3.elim
  | vp A id ver i off hle hh =>
    obtain ⟨k1, k2⟩ := hk id
    refine .vp A id ver i off (Nat.le_trans hle k1) (fun e sz m f hm' => ?_)
    have hv' : (mem' id).ver = ver := by rw [hm']; rfl
    obtain ⟨k3, k4⟩ := k2 (by omega)
    cases hm : mem id with
    | vrow v0 e0 sz0 n0 f0 =>
      have hv0 : v0 = ver := by have : (mem id).ver = v0 := by rw [hm]; rfl
                                omega
      rw [hm, hm'] at k3
      obtain ⟨rfl, rfl, k5⟩ := k3
      subst hv0
      obtain ⟨b, c, g1, g2, g3⟩ := hh _ _ _ _ hm
      exact ⟨b, c, by rw [k4, g1], by omega, g3⟩
    | _ => rw [hm, hm'] at k3; exact k3.elim
  | sk A n c id ver off len hle hh =>
    obtain ⟨k1, k2⟩ := hk id
    refine .sk A n c id ver off len (Nat.le_trans hle k1) (fun e sz m f hm' => ?_)
    have hv' : (mem' id).ver = ver := by rw [hm']; rfl
    obtain ⟨k3, k4⟩ := k2 (by omega)
    cases hm : mem id with
    | row v0 e0 sz0 n0 f0 =>
      have hv0 : v0 = ver := by have : (mem id).ver = v0 := by rw [hm]; rfl
                                omega
      rw [hm, hm'] at k3
      obtain ⟨rfl, rfl, k5⟩ := k3
      subst hv0
      obtain ⟨g1, g2, g3⟩ := hh _ _ _ _ hm
      exact ⟨by omega, g2, fun h0 => by rw [k4]; exact g3 h0⟩
    | _ => rw [hm, hm'] at k3; exact k3.elim
  | mp r id ver hle hh =>
    obtain ⟨k1, k2⟩ := hk id
    refine .mp r id ver (Nat.le_trans hle k1) (fun d k p g hm' => ?_)
    have hv' : (mem' id).ver = ver := by rw [hm']; rfl
    obtain ⟨k3, k4⟩ := k2 (by omega)
    cases hm : mem id with
    | map v0 d0 k0 p0 g0 =>
      have hv0 : v0 = ver := by have : (mem id).ver = v0 := by rw [hm]; rfl
                                omega
      subst hv0
      obtain ⟨b, c, g1, g2⟩ := hh _ _ _ _ hm
      exact ⟨b, c, by rw [k4, g1], g2⟩
    | _ => rw [hm, hm'] at k3; exact k3.elim
  | agg vs cs hl hr ih => exact .agg vs cs hl ih
  | tup vs cs hl hr ih => exact .tup vs cs hl ih
  | fn g vs cs hl hr ih => exact .fn g vs cs hl ih

def Mem.set (id : Nat) (o : AO) (mem : Mem) : Mem := fun j => bif Nat.beq j id then o else mem j
def Env.put (d : Nat) (v : AV) (env : Env) : Env := fun j => bif Nat.beq j d then v else env j

theorem beq_false_of_ne {j id : Nat} (h : j ≠ id) : Nat.beq j id = false := by
  cases hb : Nat.beq j id with
  | false => rfl
  | true => exact absurd (Nat.eq_of_beq_eq_true hb) h

theorem ne_of_beq_false {j id : Nat} (h : Nat.beq j id = false) : j ≠ id := fun e => by subst e; simp at h

end Go.Ab
