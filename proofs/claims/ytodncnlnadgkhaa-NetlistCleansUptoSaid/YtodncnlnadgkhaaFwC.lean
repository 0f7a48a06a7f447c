/- The instructions of a region, over abstract values; what each does. -/
import Derived.Test.YtodncnlnadgkhaaFwB
set_option linter.unusedSimpArgs false
set_option linter.unusedVariables false
namespace Go.Ab
open Go

inductive Opd where
  | t (n : Nat)
  | c (v : AV)
def Opd.ev (env : Env) : Opd → AV
  | .t n => env n
  | .c v => v

def cvs : Value → AV
  | .int k n => .int k n
  | .bool b => .bool b
  | .string s => .str s
  | .pointer none => .nilp
  | .nilFunc => .nilf
  | .slice none 0 0 => .cap0
  | _ => .undef
/-- The cells of a value that stands in the program's text. -/
def cvl (v : Value) : List AV := v.cells.toList.map cvs
def cv (v : Value) : AV := match v with | .agg cs => .agg (cs.toList.map cvs) | v => cvs v
def Opd.of : Operand → Opd
  | .tmp m => .t m
  | .const v => .c (cvs v)
  | .func f => .c (.fn f [])
  | .global _ => .c .undef

def kEq : IntKind → IntKind → Bool
  | .i8, .i8 | .i16, .i16 | .i32, .i32 | .i64, .i64 | .u8, .u8 | .u16, .u16 | .u32, .u32 | .u64, .u64 => true
  | _, _ => false
theorem kEq_eq {a b : IntKind} (h : kEq a b = true) : a = b := by cases a <;> cases b <;> first | rfl | cases h

def bitop (op : BinOp) (k : IntKind) (x y : Int) : Int :=
  match op with
  | .and => k.wrap (BitVec.ofInt k.bits x &&& BitVec.ofInt k.bits y).toNat
  | .or => k.wrap (BitVec.ofInt k.bits x ||| BitVec.ofInt k.bits y).toNat
  | .xor => k.wrap (BitVec.ofInt k.bits x ^^^ BitVec.ofInt k.bits y).toNat
  | _ => k.wrap (BitVec.ofInt k.bits x &&& ~~~ BitVec.ofInt k.bits y).toNat

/-- Two whole numbers: what must hold, and the result. -/
def binI (op : BinOp) (k : IntKind) (a : Int) (k' : IntKind) (b : Int) : Option (Prop × AV) :=
  match op with
  | .shl => some (0 ≤ b, .int k (k.wrap (a * 2 ^ (min b.toNat k.bits))))
  | .shr => some (0 ≤ b, .int k (a.fdiv (2 ^ (min b.toNat k.bits))))
  | .add => bif kEq k k' then some (True, .int k (k.wrap (a + b))) else none
  | .sub => bif kEq k k' then some (True, .int k (k.wrap (a - b))) else none
  | .mul => bif kEq k k' then some (True, .int k (k.wrap (a * b))) else none
  | .quo => bif kEq k k' then some (b ≠ 0, .int k (k.wrap (a.tdiv b))) else none
  | .rem => bif kEq k k' then some (b ≠ 0, .int k (a.tmod b)) else none
  | .and => bif kEq k k' then some (True, .int k (bitop .and k a b)) else none
  | .or => bif kEq k k' then some (True, .int k (bitop .or k a b)) else none
  | .xor => bif kEq k k' then some (True, .int k (bitop .xor k a b)) else none
  | .andNot => bif kEq k k' then some (True, .int k (bitop .andNot k a b)) else none
  | .eql => bif kEq k k' then some (True, .bool (a == b)) else none
  | .neq => bif kEq k k' then some (True, .bool (a != b)) else none
  | .lss => bif kEq k k' then some (True, .bool (decide (a < b))) else none
  | .leq => bif kEq k k' then some (True, .bool (decide (a ≤ b))) else none
  | .gtr => bif kEq k k' then some (True, .bool (decide (a > b))) else none
  | .geq => bif kEq k k' then some (True, .bool (decide (a ≥ b))) else none

def binS (op : BinOp) (x y : ByteArray) : Option (Prop × AV) :=
  match op with
  | .add => some (((x.size + y.size : Nat) : Int) ≤ 9223372036854775807, .str (x ++ y))
  | .eql => some (True, .bool (x.toList == y.toList))
  | .neq => some (True, .bool (!(x.toList == y.toList)))
  | _ => none

/-- A value whose cells are known in number. -/
def AV.okv : AV → Bool
  | .undef | .tup _ => false
  | _ => true

/-- What a struct's cell is. -/
inductive BK where
  | int
  | bool
  | str

inductive AI where
  | mv (x : Opd)
  | nilck (x : Opd)
  | pick (c a b : Opd)
  | bin (op : BinOp) (x y : Opd)
  | sbin (op : BinOp) (x y : Opd)
  | beq (neg : Bool) (x y : Opd)
  | not (x : Opd)
  | neg (x : Opd)
  | bnot (x : Opd)
  | conv (k : IntKind) (x : Opd)
  | len (x : Opd)
  | slen (x : Opd)
  | fld (off : Nat) (x : Opd)
  | idx (sz : Nat) (x i : Opd)
  | aidx (sz len : Nat) (x i : Opd)
  | sidx (x i : Opd)
  | load (n : Nat) (ag : Bool) (x : Opd)
  | fieldv (off n : Nat) (ag : Bool) (x : Opd)
  | ext (i : Nat) (x : Opd)
  | build (z : List AV) (parts : List (Nat × Nat × Opd))
  | mkfn (f : Nat) (caps : List Opd)
  | slc (sz : Nat) (x : Opd) (lo hi : Option Opd)
  | sslc (x : Opd) (lo hi : Option Opd)
  | aeq (ks : List BK) (neg : Bool) (x y : Opd)
  | lku (ok : Bool) (d : MK) (k : Option IntKind) (x key : Opd)
  | cp (x : Opd)
  | mx (x y : Opd)
  | mn (x y : Opd)
  | pnil (ng : Bool) (x : Opd)

/-- Cells off.. of a literal list, as a value. -/
def part? (n : Nat) (ag : Bool) (cs : List AV) : Option AV :=
  match ag with
  | true => bif Nat.ble n cs.length then some (.agg (cs.take n)) else none
  | false => match cs with
    | v :: _ => some v
    | [] => none

def fillA (env : Env) : List (Nat × Nat × Opd) → List AV → Option (List AV)
  | [], cs => some cs
  | (off, n, x) :: rest, cs =>
    bif (x.ev env).okv && Nat.beq (x.ev env).cells.length n && Nat.ble (off + n) cs.length then fillA env rest (cs.take off ++ (x.ev env).cells ++ cs.drop (off + n)) else none

def bound (env : Env) (x : Option Opd) (d : Int) : Option Int :=
  match x with
  | none => some d
  | some o => match o.ev env with
    | .int _ n => some n
    | _ => none

/-- Is the lower bound one that is computed? -/
def slcO : Option Opd → Bool
  | some (.t _) => true
  | _ => false

/-- Two structs of plain values: are they the same? -/
def eqCells : List BK → List AV → List AV → Option Bool
  | [], [], [] => some true
  | .int :: ks, .int k a :: xs, .int k' b :: ys => bif kEq k k' then (eqCells ks xs ys).map fun r => a == b && r else none
  | .bool :: ks, .bool a :: xs, .bool b :: ys => (eqCells ks xs ys).map fun r => a == b && r
  | .str :: ks, .str a :: xs, .str b :: ys => (eqCells ks xs ys).map fun r => a.toList == b.toList && r
  | _, _, _ => none
/-- A map's key. -/
def intsV : List IntKind → List AV → Option (List Value)
  | [], [] => some []
  | k :: ks, .int k' n :: cs => bif kEq k k' then (intsV ks cs).map fun r => .int k n :: r else none
  | _, _ => none
def keyV : MK → AV → Option Value
  | .str, .str s => some (.string s)
  | .ints ks, .agg cs => (intsV ks cs).map fun r => .agg r.toArray
  | .int k, .int k' n => bif kEq k k' then some (.int k n) else none
  | _, _ => none

/-- A place in an array. -/
def aidxV (mem : Mem) (sz ln : Nat) (x i : AV) : Option (Prop × AV) :=
  match i with
  | .int _ j => match x with
    | .ptr id ver o => match mem id with
      | .var ver' _ => some (ver = ver' ∧ 0 ≤ j ∧ j < ln, .ptr id ver (o + j.toNat * sz))
      | _ => none
    | .rp id ver q o => match mem id with
      | .row ver' _ _ _ _ => some (ver = ver' ∧ 0 ≤ j ∧ j < ln, .rp id ver q (o + j.toNat * sz))
      | _ => none
    | .fp cs => some (0 ≤ j ∧ j < ln, .fp (cs.drop (j.toNat * sz)))
    | _ => none
  | _ => none

/-! Slices over own rows whose elements may lead to own objects. -/
def lenV (mem : Mem) (x : AV) : Option (Prop × AV) :=
  match x with
  | .vs id ver n => match mem id with
    | .vrow ver' _ _ _ _ => some (ver = ver', .int .i64 n)
    | _ => none
  | _ => none
def fldV (mem : Mem) (off : Nat) (x : AV) : Option (Prop × AV) :=
  match x with
  | .vp i ver j o => match mem i with
    | .vrow ver' _ _ _ _ => some (ver = ver', .vp i ver j (o + off))
    | _ => none
  | _ => none
def idxV (mem : Mem) (sz : Nat) (x i : AV) : Option (Prop × AV) :=
  match i with
  | .int _ j => match x with
    | .vs id ver n => match mem id with
      | .vrow ver' _ s _ _ => bif Nat.beq s sz then some (ver = ver' ∧ 0 ≤ j ∧ j < n, .vp id ver j.toNat 0) else none
      | _ => none
    | _ => none
  | _ => none
def loadV (mem : Mem) (n : Nat) (ag : Bool) (x : AV) : Option (Prop × AV) :=
  match x with
  | .vp id ver j o => match mem id with
    | .vrow ver' _ _ m f => (part? n ag ((f j).cells.drop o)).map fun v => (ver = ver' ∧ j < m, v)
    | _ => none
  | _ => none

/-- An instruction that turns nothing: what must hold, and its value. -/
def AI.val (env : Env) (mem : Mem) : AI → Option (Prop × AV)
  | .mv x => some (True, x.ev env)
  | .nilck x => match x.ev env with
    | .ptr i ver o => match mem i with
      | .var ver' _ => some (ver = ver', .ptr i ver o)
      | _ => none
    | .fp cs => some (True, .fp cs)
    | .fn f cs => some (True, .fn f cs)
    | _ => none
  | .pick c a b => match c.ev env with
    | .bool b' => some (True, match b' with | true => a.ev env | false => b.ev env)
    | _ => none
  | .bin op x y => match x.ev env, y.ev env with
    | .int k a, .int k' b => binI op k a k' b
    | _, _ => none
  | .sbin op x y => match x.ev env, y.ev env with
    | .str a, .str b => binS op a b
    | _, _ => none
  | .beq ng x y => match x.ev env, y.ev env with
    | .bool a, .bool b => some (True, .bool (match ng with | true => !(a == b) | false => a == b))
    | _, _ => none
  | .not x => match x.ev env with
    | .bool a => some (True, .bool (!a))
    | _ => none
  | .neg x => match x.ev env with
    | .int k a => some (True, .int k (k.wrap (0 - a)))
    | _ => none
  | .bnot x => match x.ev env with
    | .int k a => some (True, .int k (bitop .xor k (if k.signed then -1 else k.max) a))
    | _ => none
  | .conv k x => match x.ev env with
    | .int _ a => some (True, .int k (k.wrap a))
    | _ => none
  | .len x => match x.ev env with
    | .fs n _ => some (True, .int .i64 n)
    | .sl id ver n => match mem id with
      | .row ver' _ _ _ _ => some (ver = ver', .int .i64 n)
      | _ => none
    | .cap0 => some (True, .int .i64 (0 : Nat))
    | v => lenV mem v
  | .slen x => match x.ev env with
    | .str s => some (True, .int .i64 s.size)
    | _ => none
  | .fld off x => match x.ev env with
    | .ptr i ver o => match mem i with
      | .var ver' _ => some (ver = ver', .ptr i ver (o + off))
      | _ => none
    | .rp i ver j o => match mem i with
      | .row ver' _ _ _ _ => some (ver = ver', .rp i ver j (o + off))
      | _ => none
    | .fp cs => some (True, .fp (cs.drop off))
    | v => fldV mem off v
  | .idx sz x i => match x.ev env, i.ev env with
    | .fs n f, .int _ j => some (0 ≤ j ∧ j < n ∧ (f j.toNat).cells.length = sz, .fp (f j.toNat).cells)
    | .sl id ver n, .int _ j => match mem id with
      | .row ver' _ s _ _ => bif Nat.beq s sz then some (ver = ver' ∧ 0 ≤ j ∧ j < n, .rp id ver j.toNat 0) else none
      | _ => none
    | v, k => idxV mem sz v k
  | .aidx sz ln x i => aidxV mem sz ln (x.ev env) (i.ev env)
  | .sidx x i => match x.ev env, i.ev env with
    | .str s, .int _ j => some (0 ≤ j ∧ j < s.size, .int .u8 ((s.data.toList.getD j.toNat 0).toNat : Int))
    | _, _ => none
  | .load n ag x => match x.ev env with
    | .ptr id ver o => match mem id with
      | .var ver' cs => (part? n ag (cs.drop o)).map fun v => (ver = ver', v)
      | _ => none
    | .rp id ver j o => match mem id with
      | .row ver' _ _ m f => (part? n ag ((f j).cells.drop o)).map fun v => (ver = ver' ∧ j < m, v)
      | _ => none
    | .fp cs => (part? n ag cs).map fun v => (True, v)
    | v => loadV mem n ag v
  | .fieldv off n ag x => match x.ev env with
    | .agg cs => (part? n ag (cs.drop off)).map fun v => (True, v)
    | _ => none
  | .ext i x => match x.ev env with
    | .tup vs => match vs[i]? with
      | some v => some (True, v)
      | none => none
    | _ => none
  | .build z parts => (fillA env parts z).map fun cs => (True, .agg cs)
  | .mkfn f caps => some (True, .fn f (caps.map (Opd.ev env)))
  | .slc sz x lo hi => match x.ev env with
    | .fs n f => match bound env lo 0, bound env hi n with
      | some l, some h => some (0 ≤ l ∧ l ≤ h ∧ h ≤ n ∧ (l < h → (f l.toNat).cells.length = sz), .fs (h - l).toNat (fun i => f (l.toNat + i)))
      | _, _ => none
    | .sl id ver n => match mem id with
      | .row ver' _ s _ _ => bif slcO lo then match bound env lo 0, bound env hi n with
          | some l, some h => some (ver = ver' ∧ s = sz ∧ 0 ≤ l ∧ l ≤ h ∧ h ≤ n, .sk id ver l.toNat (h - l).toNat)
          | _, _ => none
        else match bound env lo 0, bound env hi n with
        | some 0, some h => some (ver = ver' ∧ 0 ≤ h ∧ h ≤ n, .sl id ver h.toNat)
        | _, _ => none
      | _ => none
    | .cap0 => match bound env lo 0, bound env hi (0 : Nat) with
      | some l, some h => some (l = 0 ∧ h = 0, .cap0)
      | _, _ => none
    | _ => none
  | .sslc x lo hi => match x.ev env with
    | .str s => match bound env lo 0, bound env hi s.size with
      | some l, some h => some (0 ≤ l ∧ l ≤ h ∧ h ≤ s.size, .str (s.extract l.toNat h.toNat))
      | _, _ => none
    | _ => none
  | .aeq ks ng x y => match x.ev env, y.ev env with
    | .agg xs, .agg ys => (eqCells ks xs ys).map fun b => (True, .bool (match ng with | true => !b | false => b))
    | _, _ => none
  | .lku ok d k x key => match x.ev env, keyV d (key.ev env) with
    | .mp id ver, some kv => match mem id with
      | .map ver' d' k' p g => some (ver = ver' ∧ d' = d ∧ k' = k, match ok with | true => .tup [elA k (g kv), .bool (p kv)] | false => elA k (g kv))
      | _ => none
    | _, _ => none
  | .cp x => match x.ev env with
    | .cap0 => some (True, .int .i64 0)
    | _ => none
  | .mx x y => match x.ev env, y.ev env with
    | .int k a, .int k' b => bif kEq k k' then some (True, .int k (if b > a then b else a)) else none
    | _, _ => none
  | .mn x y => match x.ev env, y.ev env with
    | .int k a, .int k' b => bif kEq k k' then some (True, .int k (if b < a then b else a)) else none
    | _, _ => none
  | .pnil ng x => match x.ev env with
    | .ptr id ver _ => match mem id with
      | .var ver' _ => some (ver = ver', .bool ng)
      | _ => none
    | .nilp => some (True, .bool (!ng))
    | _ => none

/-! ### What a value is, by what it stands for -/
section
variable {w : World} {F : Nat → Prop} {bl : Nat → Loc} {mem : Mem} {u : Value}

theorem VV.int_inv {k : IntKind} {n : Int} (h : VV w F bl mem u (.int k n)) : u = .int k n := by cases h with | fz h => cases h; rfl
theorem VV.bool_inv {b : Bool} (h : VV w F bl mem u (.bool b)) : u = .bool b := by cases h with | fz h => cases h; rfl
theorem VV.str_inv {s : ByteArray} (h : VV w F bl mem u (.str s)) : u = .string s := by cases h with | fz h => cases h; rfl
theorem VV.cap0_inv (h : VV w F bl mem u .cap0) : u = .slice none 0 0 := by cases h with | fz h => cases h; rfl
theorem VV.fs_inv {n : Nat} {f : Nat → AV} (h : VV w F bl mem u (.fs n f)) : FV w F u (.fs n f) := by cases h with | fz h => exact h
theorem VV.fp_inv {cs : List AV} (h : VV w F bl mem u (.fp cs)) : FV w F u (.fp cs) := by cases h with | fz h => exact h
theorem VV.sl_inv {id ver n : Nat} (h : VV w F bl mem u (.sl id ver n)) : ∃ A k c, u = .slice A k c ∧ ∀ e sz m f, mem id = .row ver e sz m f → n ≤ m ∧ u = slv (bl id) n := by
  cases h with
  | fz h => cases h
  | sl A k c _ _ _ hle hh => exact ⟨A, k, c, rfl, hh⟩
theorem VV.ptr_inv {id ver o : Nat} (h : VV w F bl mem u (.ptr id ver o)) : ∃ A, u = .pointer A ∧ ∀ cs, mem id = .var ver cs → ∃ b c, bl id = .blk b c ∧ u = .pointer (some ⟨b, o, none⟩) := by
  cases h with
  | fz h => cases h
  | ptr A _ _ _ hle hh => exact ⟨A, rfl, fun cs hm => by obtain ⟨b, c, h1, rfl⟩ := hh cs hm; exact ⟨b, c, h1, rfl⟩⟩
theorem VV.rp_inv {id ver i o : Nat} (h : VV w F bl mem u (.rp id ver i o)) : ∃ A, u = .pointer A ∧ ∀ e sz m f, mem id = .row ver e sz m f → ∃ b c, bl id = .blk b c ∧ i < m ∧ u = .pointer (some ⟨b, i * sz + o, none⟩) := by
  cases h with
  | fz h => cases h
  | rp A _ _ _ _ hle hh => exact ⟨A, rfl, fun e sz m f hm => by obtain ⟨b, c, h1, h2, rfl⟩ := hh e sz m f hm; exact ⟨b, c, h1, h2, rfl⟩⟩
theorem VV.mp_inv {id ver : Nat} (h : VV w F bl mem u (.mp id ver)) : ∃ r, u = .map r ∧ ∀ d k p g, mem id = .map ver d k p g → ∃ b c, bl id = .blk b c ∧ u = .map (some b) := by
  cases h with
  | fz h => cases h
  | mp r _ _ hle hh => exact ⟨r, rfl, fun d k p g hm => by obtain ⟨b, c, h1, rfl⟩ := hh d k p g hm; exact ⟨b, c, h1, rfl⟩⟩
theorem VV.sk_inv {id ver o n : Nat} (h : VV w F bl mem u (.sk id ver o n)) : ∃ A k c, u = .slice A k c ∧ ∀ e sz m f, mem id = .row ver e sz m f → o + n ≤ m ∧ k = n ∧ (0 < n → ∃ b c', bl id = .blk b c' ∧ A = some ⟨b, o * sz, none⟩) := by
  cases h with
  | fz h => cases h
  | sk A k c _ _ _ _ hle hh => exact ⟨A, k, c, rfl, hh⟩
theorem VV.vs_inv {id ver n : Nat} (h : VV w F bl mem u (.vs id ver n)) : ∃ A k c, u = .slice A k c ∧ ∀ e sz m f, mem id = .vrow ver e sz m f → n ≤ m ∧ u = slv (bl id) n := by
  cases h with
  | fz h => cases h
  | vs A k c _ _ _ hle hh => exact ⟨A, k, c, rfl, hh⟩
theorem VV.vp_inv {id ver i o : Nat} (h : VV w F bl mem u (.vp id ver i o)) : ∃ A, u = .pointer A ∧ ∀ e sz m f, mem id = .vrow ver e sz m f → ∃ b c, bl id = .blk b c ∧ i < m ∧ u = .pointer (some ⟨b, i * sz + o, none⟩) := by
  cases h with
  | fz h => cases h
  | vp A _ _ _ _ hle hh => exact ⟨A, rfl, fun e sz m f hm => by obtain ⟨b, c, h1, h2, rfl⟩ := hh e sz m f hm; exact ⟨b, c, h1, h2, rfl⟩⟩
theorem VV.vs_le {id ver n : Nat} (h : VV w F bl mem u (.vs id ver n)) : ver ≤ (mem id).ver := by
  cases h with
  | fz h => cases h
  | vs A k c _ _ _ hle hh => exact hle
theorem VV.vp_le {id ver i n : Nat} (h : VV w F bl mem u (.vp id ver i n)) : ver ≤ (mem id).ver := by
  cases h with
  | fz h => cases h
  | vp A _ _ _ _ hle hh => exact hle
theorem VV.sl_le {id ver n : Nat} (h : VV w F bl mem u (.sl id ver n)) : ver ≤ (mem id).ver := by
  cases h with
  | fz h => cases h
  | sl A k c _ _ _ hle hh => exact hle
theorem VV.ptr_le {id ver n : Nat} (h : VV w F bl mem u (.ptr id ver n)) : ver ≤ (mem id).ver := by
  cases h with
  | fz h => cases h
  | ptr A _ _ _ hle hh => exact hle
theorem VV.rp_le {id ver i n : Nat} (h : VV w F bl mem u (.rp id ver i n)) : ver ≤ (mem id).ver := by
  cases h with
  | fz h => cases h
  | rp A _ _ _ _ hle hh => exact hle
theorem VV.agg_inv {cs : List AV} (h : VV w F bl mem u (.agg cs)) : ∃ vs : Array Value, u = .agg vs ∧ vs.size = cs.length ∧ ∀ j, j < cs.length → VV w F bl mem (vs.getD j undef) (cs.getD j .undef) := by
  cases h with
  | fz h => cases h with | agg vs _ hl hr => exact ⟨vs, rfl, hl, fun j hj => .fz (hr j hj)⟩
  | agg vs _ hl hr => exact ⟨vs, rfl, hl, hr⟩
theorem VV.tup_inv {cs : List AV} (h : VV w F bl mem u (.tup cs)) : ∃ vs : Array Value, u = .tuple vs ∧ vs.size = cs.length ∧ ∀ j, j < cs.length → VV w F bl mem (vs.getD j undef) (cs.getD j .undef) := by
  cases h with
  | fz h => cases h with | tup vs _ hl hr => exact ⟨vs, rfl, hl, fun j hj => .fz (hr j hj)⟩
  | tup vs _ hl hr => exact ⟨vs, rfl, hl, hr⟩
theorem VV.fn_inv {f : Nat} {cs : List AV} (h : VV w F bl mem u (.fn f cs)) : ∃ vs : Array Value, u = .func (.func f) #[] vs ∧ vs.size = cs.length ∧ ∀ j, j < cs.length → VV w F bl mem (vs.getD j undef) (cs.getD j .undef) := by
  cases h with
  | fz h => cases h with | fn _ vs _ hl hr => exact ⟨vs, rfl, hl, fun j hj => .fz (hr j hj)⟩
  | fn _ vs _ hl hr => exact ⟨vs, rfl, hl, hr⟩

theorem FV.cvs (v : Value) : FV w F v (cvs v) := by
  unfold Go.Ab.cvs
  split <;> constructor

theorem VV.opd {a : Act} {env : Env} (hv : ∀ k, VV w F bl mem (a.tmps.getD k Go.undef) (env k)) (x : Operand) : VV w F bl mem (a.eval x) ((Opd.of x).ev env) := by
  cases x with
  | tmp t => exact hv t
  | const v => exact .fz (FV.cvs v)
  | global g => exact .fz (.undef _)
  | func f => exact .fz (.fn f #[] [] rfl (fun j hj => by simp at hj))

theorem VV.cells_size {v : Value} {a : AV} (h : VV w F bl mem v a) (ho : a.okv = true) : v.cells.size = a.cells.length := by
  cases a with
  | agg cs => obtain ⟨vs, rfl, hl, _⟩ := h.agg_inv; exact hl
  | undef => cases ho
  | tup => cases ho
  | _ =>
    have hc : v.cells = #[v] := by
      first
        | (cases h with | fz h => cases h <;> rfl)
        | (obtain ⟨_, _, _, rfl, _⟩ := h.sl_inv; rfl)
        | (obtain ⟨_, rfl, _⟩ := h.ptr_inv; rfl)
        | (obtain ⟨_, rfl, _⟩ := h.rp_inv; rfl)
        | (obtain ⟨_, _, _, rfl, _⟩ := h.vs_inv; rfl)
        | (obtain ⟨_, _, _, rfl, _⟩ := h.sk_inv; rfl)
        | (obtain ⟨_, rfl, _⟩ := h.vp_inv; rfl)
        | (obtain ⟨_, rfl, _⟩ := h.mp_inv; rfl)
        | (obtain ⟨_, rfl, _⟩ := h.fn_inv; rfl)
        | (cases h with | fz h => cases h | mp => rfl)
    rw [hc]; rfl

/-- The cells of a value. -/
theorem VV.cellsOf {v : Value} {a : AV} (h : VV w F bl mem v a) (hs : v.cells.size = a.cells.length) : ∀ j, j < a.cells.length → VV w F bl mem (v.cells.getD j Go.undef) (a.cells.getD j .undef) := by
  intro j hj
  cases a with
  | agg cs =>
    obtain ⟨vs, rfl, hl, hr⟩ := h.agg_inv
    exact hr j hj
  | undef => simp only [AV.cells, List.length_singleton] at hj; obtain rfl : j = 0 := by omega
             simp only [AV.cells, List.getD_cons_zero]; exact .fz (.undef _)
  | _ =>
    simp only [AV.cells, List.length_singleton] at hj hs
    obtain rfl : j = 0 := by omega
    have hc : v.cells = #[v] := by
      first
        | (cases h with | fz h => cases h <;> rfl)
        | (obtain ⟨_, _, _, rfl, _⟩ := h.sl_inv; rfl)
        | (obtain ⟨_, rfl, _⟩ := h.ptr_inv; rfl)
        | (obtain ⟨_, rfl, _⟩ := h.rp_inv; rfl)
        | (obtain ⟨_, _, _, rfl, _⟩ := h.vs_inv; rfl)
        | (obtain ⟨_, _, _, rfl, _⟩ := h.sk_inv; rfl)
        | (obtain ⟨_, rfl, _⟩ := h.vp_inv; rfl)
        | (obtain ⟨_, rfl, _⟩ := h.mp_inv; rfl)
        | (obtain ⟨_, rfl, _⟩ := h.tup_inv; rfl)
        | (obtain ⟨_, rfl, _⟩ := h.fn_inv; rfl)
        | (cases h with | fz h => cases h | mp => rfl)
    rw [hc]
    simpa [AV.cells] using h
end

end Go.Ab
