/- From an operation to an instruction, and that the instruction tells what the operation does: those that turn nothing. -/
import Derived.Test.YtodncnlnadgkhaaFwC
set_option linter.unusedSimpArgs false
set_option linter.unusedVariables false
namespace Go.Ab
open Go

def tsize (P : Program) (t : TypeId) : Option Nat := (P.info? t).map (·.size)
def aggT (P : Program) (t : TypeId) : Bool := match P.underlying t with | some (.struct _) | some (.array _ _) => true | _ => false
def fieldOf (P : Program) (s : TypeId) (i : Nat) : Option Field := match P.underlying s with | some (.struct fs) => fs[i]? | _ => none

def compParts (places : List (Nat × Nat)) : List (Nat × Operand) → Option (List (Nat × Nat × Opd))
  | [] => some []
  | (i, x) :: rest => match places[i]?, compParts places rest with
    | some (off, n), some r => some ((off, n, Opd.of x) :: r)
    | _, _ => none

def compPartsA (sz : Nat) : List (Nat × Operand) → List (Nat × Nat × Opd)
  | [] => []
  | (i, x) :: rest => (i * sz, sz, Opd.of x) :: compPartsA sz rest

def compB (P : Program) (b : Builtin) (args : List Operand) (ts : List TypeId) : Option AI :=
  match b, args, ts with
  | .len, [x], [t] => match P.underlying t with
    | some (.slice _) => some (.len (Opd.of x))
    | some .string => some (.slen (Opd.of x))
    | _ => none
  | .max, [x, y], _ => some (.mx (Opd.of x) (Opd.of y))
  | .min, [x, y], _ => some (.mn (Opd.of x) (Opd.of y))
  | _, _, _ => none

def compV (P : Program) (op : Op) : Option AI :=
  match op with
  | .move x | .assign x => some (.mv (Opd.of x))
  | .nilCheck x => some (.nilck (Opd.of x))
  | .pick c a b => some (.pick (Opd.of c) (Opd.of a) (Opd.of b))
  | .binOp op t x y _ => match P.underlying t with
    | some (.int _) => some (.bin op (Opd.of x) (Opd.of y))
    | some .string => some (.sbin op (Opd.of x) (Opd.of y))
    | some .bool => match op with
      | .eql => some (.beq false (Opd.of x) (Opd.of y))
      | .neq => some (.beq true (Opd.of x) (Opd.of y))
      | _ => none
    | _ => none
  | .unOp op _ x => match op with
    | .not => some (.not (Opd.of x))
    | .neg => some (.neg (Opd.of x))
    | .xor => some (.bnot (Opd.of x))
    | .plus => none
  | .convert s d x => match P.underlying s, P.underlying d with
    | some (.int _), some (.int k) => some (.conv k (Opd.of x))
    | _, _ => none
  | .fieldAddr s x f => match fieldOf P s f with
    | some fd => match tsize P fd.type with
      | some (_ + 1) => some (.fld fd.offset (Opd.of x))
      | _ => none
    | none => none
  | .indexAddr t x i => match P.underlying t with
    | some (.slice e) => match tsize P e with
      | some sz => some (.idx sz (Opd.of x) (Opd.of i))
      | none => none
    | some (.array len e) => match tsize P e with
      | some sz => some (.aidx sz len (Opd.of x) (Opd.of i))
      | none => none
    | _ => none
  | .index t x i => match P.underlying t with
    | some .string => some (.sidx (Opd.of x) (Opd.of i))
    | _ => none
  | .load t x => match P.underlying t, tsize P t with
    | some _, some n => some (.load n (aggT P t) (Opd.of x))
    | _, _ => none
  | .field t x f => match fieldOf P t f with
    | some fd => match P.underlying fd.type, tsize P fd.type with
      | some _, some n => some (.fieldv fd.offset n (aggT P fd.type) (Opd.of x))
      | _, _ => none
    | none => none
  | .extract x i => some (.ext i (Opd.of x))
  | .build t parts => match P.info? t, P.underlying t with
    | some it, some (.struct fs) => match it.zero, fs.toList.mapM (fun f => (P.info? f.type).map fun i => (f.offset, i.size)) with
      | some z, some places => (compParts places parts.toList).map fun ps => .build (cvl z) ps
      | _, _ => none
    | some it, some (.array _ e) => match it.zero, P.info? e with
      | some z, some ie => some (.build (cvl z) (compPartsA ie.size parts.toList))
      | _, _ => none
    | _, _ => none
  | .makeFunc (.func f) first caps => bif Nat.beq first.size 0 then some (.mkfn f (caps.toList.map Opd.of)) else none
  | .slice t x lo hi none => match P.underlying t with
    | some (.slice e) => match tsize P e with
      | some sz => some (.slc sz (Opd.of x) (lo.map Opd.of) (hi.map Opd.of))
      | none => none
    | some .string => some (.sslc (Opd.of x) (lo.map Opd.of) (hi.map Opd.of))
    | _ => none
  | .call c => match c.callee with
    | .builtin b => compB P b c.args.toList c.argTypes.toList
    | _ => none
  | _ => none

section
variable {P : Program} {w : World} {F : Nat → Prop} {bl : Nat → Loc} {mem : Mem} {a : Act} {env : Env}

/-- What is shown of an instruction that turns nothing. -/
def Yld (P : Program) (w : World) (F : Nat → Prop) (bl : Nat → Loc) (mem : Mem) (a : Act) (o : Oper) (v : AV) : Prop :=
  ∃ u, (execOp a.eval o).run P w = .ok (.value u) w ∧ VV w F bl mem u v

theorem run_v {s : Sem Value} {u : Value} {w w' : World} (h : s.run P w = .ok u w') : (Bind.bind s fun x => Pure.pure (Next.value x)).run P w = .ok (.value u) w' := by
  simp [h]

theorem run_binI {op : BinOp} {k k' : IntKind} {x y : Int} {c : Prop} {v : AV} (t : TypeId) (h : binI op k x k' y = some (c, v)) (hc : c) : ∃ u, (binOp op t (.int k x) (.int k' y)).run P w = .ok u w ∧ FV w F u v := by
  cases op <;> simp only [binI] at h
  case shl => cases h; exact ⟨_, by simp [binOp, Op.shift, Int.not_lt.2 hc], .int _ _⟩
  case shr => cases h; exact ⟨_, by simp [binOp, Op.shift, Int.not_lt.2 hc], .int _ _⟩
  all_goals
    cases hk : kEq k k' with
    | false => rw [hk] at h; cases h
    | true =>
      rw [hk] at h
      have hk' := kEq_eq hk
      subst hk'
      cases h
      first
        | (refine ⟨_, ?_, .int _ _⟩; simp [binOp, Op.intArith]; done)
        | (have hz : ¬ y = 0 := hc; refine ⟨_, ?_, .int _ _⟩; simp only [binOp, ne_eq, not_true, if_false, Op.intDiv, if_neg hz]; rfl)
        | (refine ⟨_, ?_, .int _ _⟩; simp [binOp, Op.intBits, bitop]; done)
        | (refine ⟨_, ?_, .bool _⟩; simp only [binOp, Op.intCmp, ne_eq, not_true, if_false]; rfl)

theorem run_binS {op : BinOp} {x y : ByteArray} {c : Prop} {v : AV} (t : TypeId) (h : binS op x y = some (c, v)) (hc : c) : ∃ u, (binOp op t (.string x) (.string y)).run P w = .ok u w ∧ FV w F u v := by
  cases op <;> simp only [binS] at h
  case add =>
    cases h
    refine ⟨_, ?_, .str _⟩
    have : ¬ ((x.size + y.size : Nat) : Int) > IntKind.i64.max := by simp only [IntKind.max, IntKind.signed, IntKind.bits]; simp; omega
    simp only [binOp, Op.stringOp, if_neg this]
    rfl
  case eql => cases h; exact ⟨_, by simp [binOp, Op.stringOp], .bool _⟩
  case neq => cases h; exact ⟨_, by simp [binOp, Op.stringOp], .bool _⟩
  all_goals cases h

theorem run_eqGuard_int (op : BinOp) (t : TypeId) (x y : Operand) (k k' : IntKind) (m n : Int) : (eqGuard op t x y (.int k m) (.int k' n)).run P w = .ok () w := by
  unfold eqGuard
  cases op <;> simp
theorem run_eqGuard_str (op : BinOp) (t : TypeId) (x y : Operand) (m n : ByteArray) : (eqGuard op t x y (.string m) (.string n)).run P w = .ok () w := by
  unfold eqGuard
  cases op <;> simp
theorem run_eqGuard_bool (op : BinOp) (t : TypeId) (x y : Operand) (m n : Bool) : (eqGuard op t x y (.bool m) (.bool n)).run P w = .ok () w := by
  unfold eqGuard
  cases op <;> simp

theorem add_block (ad : Addr) (j : Nat) : (ad.add j).block = ad.block := by unfold Addr.add; split <;> rfl
theorem add_add (ad : Addr) (i j : Nat) : (ad.add i).add j = ad.add (i + j) := by
  unfold Addr.add
  split <;> split <;> simp_all <;> omega
theorem add_lit (b o j : Nat) : (⟨b, o, none⟩ : Addr).add j = ⟨b, o + j, none⟩ := by unfold Addr.add; split <;> simp_all
theorem add_zero (ad : Addr) : ad.add 0 = ad := by unfold Addr.add; simp

/-- A run of cells is loaded. -/
theorem run_loadVar_cells {t : TypeId} {d : TypeDesc} {n : Nat} (hu : P.underlying t = some d) (hs : tsize P t = some n) {ad : Addr} {val : Nat → Value} {cs : List AV} {v : AV}
    (hp : part? n (aggT P t) cs = some v) (hc : ∀ j, j < cs.length → w.cell? (ad.add j) = some (val j)) (hr : ∀ j, j < cs.length → VV w F bl mem (val j) (cs.getD j .undef)) :
    ∃ u, (loadVar t ad).run P w = .ok u w ∧ VV w F bl mem u v := by
  obtain ⟨i, hi, hin⟩ := Option.map_eq_some_iff.1 hs
  cases hg : aggT P t with
  | true =>
    rw [hg] at hp
    simp only [part?] at hp
    cases hb : Nat.ble n cs.length with
    | false => rw [hb] at hp; cases hp
    | true =>
      rw [hb] at hp
      cases hp
      have hle : n ≤ cs.length := Nat.le_of_ble_eq_true hb
      have hl := run_loadCells (P := P) w ad n val (fun j hj => hc j (by omega))
      have hagg : (isAgg t).run P w = .ok true w := by
        unfold aggT at hg
        rw [hu] at hg
        cases d <;> simp_all [isAgg, run_underlying hu]
      refine ⟨.agg ((List.range n).map val).toArray, by simp [loadVar, hagg, sizeOf, typeInfo, hi, hin, hl], ?_⟩
      refine .agg _ _ (by simp; omega) (fun j hj => ?_)
      have hjn : j < n := by simp at hj; omega
      have := hr j (by omega)
      simpa [hjn, List.getD_eq_getElem?_getD, List.getElem?_take] using this
  | false =>
    rw [hg] at hp
    simp only [part?] at hp
    cases cs with
    | nil => cases hp
    | cons x rest =>
      cases hp
      have h0 := hc 0 (by simp)
      have hagg : (isAgg t).run P w = .ok false w := by
        unfold aggT at hg
        rw [hu] at hg
        cases d <;> simp_all [isAgg, run_underlying hu]
      rw [add_zero] at h0
      exact ⟨val 0, by simp [loadVar, hagg, run_load, h0], by simpa using hr 0 (by simp)⟩

theorem getD_drop (cs : List AV) (o j : Nat) : (cs.drop o).getD j .undef = cs.getD (o + j) .undef := by
  simp [List.getD_eq_getElem?_getD, List.getElem?_drop]

end
end Go.Ab
