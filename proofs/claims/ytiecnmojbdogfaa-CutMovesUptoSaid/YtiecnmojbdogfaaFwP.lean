/- What must hold for a body to do its work, as rules for 'simp only': loops and calls are left standing. -/
import Derived.Test.YtiecnmojbdogfaaFwO
import Derived.IntWalk
set_option linter.unusedSimpArgs false
set_option linter.unusedVariables false
set_option linter.defProp false
namespace Go.Ab
open Go

section
variable {P : Program} {Q : AX → Env → Mem → Prop} {K : Env → Mem → Prop} {env e : Env} {mem m : Mem} {d : Option Nat} {rest : List AOp}

def seqK (P : Program) (b : AC) (Q : AX → Env → Mem → Prop) : AX → Env → Mem → Prop := fun x e m => match x with | .normal => awp P b Q e m | x => Q x e m
def blockK (id : Nat) (Q : AX → Env → Mem → Prop) : AX → Env → Mem → Prop := fun x e m => match x with | .exit j => (bif Nat.beq j id then Q .normal e m else Q (.exit j) e m) | x => Q x e m
def loopK (I : Nat → Env → Mem → Prop) (n : Nat) (Q : AX → Env → Mem → Prop) : AX → Env → Mem → Prop := fun x e m => match x with | .normal => ∃ n', n' < n ∧ I n' e m | x => Q x e m
def cnd (P : Program) (v : AV) (a b : AC) (Q : AX → Env → Mem → Prop) (env : Env) (mem : Mem) : Prop :=
  match v with
  | .bool t => match t with
    | true => awp P a Q env mem
    | false => awp P b Q env mem
  | _ => False
def actL (P : Program) (d : Option Nat) (si : SI) (K : Env → Mem → Prop) (rest : List AOp) (env : Env) (mem : Mem) : Prop := (AOp.mk d none si).act P env mem (awpL P K rest)
def grd (P : Program) (v : AV) (g : Nat) (want : Bool) (d : Option Nat) (si : SI) (K : Env → Mem → Prop) (rest : List AOp) (env : Env) (mem : Mem) : Prop :=
  match v with
  | .bool b => match b, want with
    | true, true => actL P d si K rest env mem
    | false, false => actL P d si K rest env mem
    | _, _ => awpL P K rest (putO d (.tup []) env) mem
  | .tup [] => awpL P K rest (putO d (.tup []) env) mem
  | _ => False
def vL (P : Program) (r : Option (Prop × AV)) (d : Option Nat) (K : Env → Mem → Prop) (rest : List AOp) (env : Env) (mem : Mem) : Prop :=
  match r with
  | some (c, v) => c ∧ awpL P K rest (putO d v env) mem
  | none => False
def eL (P : Program) (r : Option (Prop × AV × Mem)) (d : Option Nat) (K : Env → Mem → Prop) (rest : List AOp) (env : Env) : Prop :=
  match r with
  | some (c, v, m) => c ∧ awpL P K rest (putO d v env) m
  | none => False
def callK (P : Program) (d : Option Nat) (K : Env → Mem → Prop) (rest : List AOp) (env : Env) : AV → Mem → Prop := fun v m => awpL P K rest (putO d v env) m
def cL (P : Program) (v : AV) (args : List AV) (d : Option Nat) (K : Env → Mem → Prop) (rest : List AOp) (env : Env) (mem : Mem) : Prop :=
  match v with
  | .fn g caps => CallW P g (args ++ caps) mem (callK P d K rest env)
  | _ => False

theorem vSkip : awp P .skip Q env mem = Q .normal env mem := rfl
theorem vRet : awp P .ret Q env mem = Q .ret env mem := rfl
theorem vExit {id : Nat} : awp P (.exit id) Q env mem = Q (.exit id) env mem := rfl
theorem vOps {l : List AOp} : awp P (.ops l) Q env mem = awpL P (Q .normal) l env mem := rfl
theorem vSeq {a b : AC} : awp P (.seq a b) Q env mem = awp P a (seqK P b Q) env mem := rfl
theorem vBlock {id : Nat} {a : AC} : awp P (.block id a) Q env mem = awp P a (blockK id Q) env mem := rfl
theorem vCond {c : Opd} {a b : AC} : awp P (.cond c a b) Q env mem = cnd P (c.ev env) a b Q env mem := rfl
theorem seqN {b : AC} : seqK P b Q .normal e m = awp P b Q e m := rfl
theorem seqR {b : AC} : seqK P b Q .ret e m = Q .ret e m := rfl
theorem seqE {b : AC} {i : Nat} : seqK P b Q (.exit i) e m = Q (.exit i) e m := rfl
theorem blockN {id : Nat} : blockK id Q .normal e m = Q .normal e m := rfl
theorem blockR {id : Nat} : blockK id Q .ret e m = Q .ret e m := rfl
theorem blockE {id j : Nat} : blockK id Q (.exit j) e m = if j = id then Q .normal e m else Q (.exit j) e m := by
  unfold blockK
  by_cases h : j = id
  · subst h; simp
  · simp [h, beq_false_of_ne h]
theorem loopN {I : Nat → Env → Mem → Prop} {n : Nat} : loopK I n Q .normal e m = ∃ n', n' < n ∧ I n' e m := rfl
theorem loopR {I : Nat → Env → Mem → Prop} {n : Nat} : loopK I n Q .ret e m = Q .ret e m := rfl
theorem loopE {I : Nat → Env → Mem → Prop} {n i : Nat} : loopK I n Q (.exit i) e m = Q (.exit i) e m := rfl
theorem cndT {a b : AC} : cnd P (.bool true) a b Q env mem = awp P a Q env mem := rfl
theorem cndF {a b : AC} : cnd P (.bool false) a b Q env mem = awp P b Q env mem := rfl
theorem cndB (t : Bool) {a b : AC} : cnd P (.bool t) a b Q env mem = ((t = true → awp P a Q env mem) ∧ (t = false → awp P b Q env mem)) := by cases t <;> simp [cnd]
theorem cndD {p : Prop} [hp : Decidable p] {a b : AC} : cnd P (.bool (decide p)) a b Q env mem = ((p → awp P a Q env mem) ∧ (¬ p → awp P b Q env mem)) := by
  by_cases h : p <;> simp [cnd, h]
theorem lNil : awpL P K [] env mem = K env mem := rfl
theorem lCons {si : SI} : awpL P K (⟨d, none, si⟩ :: rest) env mem = actL P d si K rest env mem := rfl
theorem lGrd {si : SI} {g : Nat} {want : Bool} : awpL P K (⟨d, some (g, want), si⟩ :: rest) env mem = grd P (env g) g want d si K rest env mem := by
  simp only [awpL, AOp.wp, grd]; rfl
theorem grdTT {si : SI} {g : Nat} : grd P (.bool true) g true d si K rest env mem = actL P d si K rest env mem := rfl
theorem grdFF {si : SI} {g : Nat} : grd P (.bool false) g false d si K rest env mem = actL P d si K rest env mem := rfl
theorem grdTF {si : SI} {g : Nat} : grd P (.bool true) g false d si K rest env mem = awpL P K rest (putO d (.tup []) env) mem := rfl
theorem grdFT {si : SI} {g : Nat} : grd P (.bool false) g true d si K rest env mem = awpL P K rest (putO d (.tup []) env) mem := rfl
theorem grdN {si : SI} {g : Nat} {want : Bool} : grd P (.tup []) g want d si K rest env mem = awpL P K rest (putO d (.tup []) env) mem := rfl
theorem aV {i : AI} : actL P d (.v i) K rest env mem = vL P (i.val env mem) d K rest env mem := rfl
theorem aE {i : EI} : actL P d (.e i) K rest env mem = eL P (i.run env mem) d K rest env := rfl
theorem aC {f : Opd} {args : List Opd} : actL P d (.call f args) K rest env mem = cL P (f.ev env) (args.map (Opd.ev env)) d K rest env mem := rfl
theorem vS {c : Prop} {v : AV} : vL P (some (c, v)) d K rest env mem = (c ∧ awpL P K rest (putO d v env) mem) := rfl
theorem eS {c : Prop} {v : AV} : eL P (some (c, v, m)) d K rest env = (c ∧ awpL P K rest (putO d v env) m) := rfl
theorem cS {g : Nat} {caps args : List AV} : cL P (.fn g caps) args d K rest env mem = CallW P g (args ++ caps) mem (callK P d K rest env) := rfl
theorem callK_at {v : AV} : callK P d K rest env v m = awpL P K rest (putO d v env) m := rfl
theorem putS {d : Nat} {v : AV} : putO (some d) v env = Env.put d v env := rfl
theorem putN {v : AV} : putO none v env = env := rfl
theorem put_at {d k : Nat} {v : AV} : Env.put d v env k = if k = d then v else env k := by
  by_cases h : k = d
  · subst h; simp [Env.put]
  · simp [Env.put, h, beq_false_of_ne h]
theorem set_at {d k : Nat} {v : AO} : Mem.set d v mem k = if k = d then v else mem k := by
  by_cases h : k = d
  · subst h; simp [Mem.set]
  · simp [Mem.set, h, beq_false_of_ne h]
theorem evT {n : Nat} : (Opd.t n).ev env = env n := rfl
theorem evC {v : AV} : (Opd.c v).ev env = v := rfl
theorem put_self {g : Nat} {v : AV} (h : env g = v) : Env.put g v env = env := by
  funext k
  rw [put_at]
  split
  · rename_i e; subst e; exact h.symm
  · rfl

/-- A guard whose truth is open: both ways, and the guard's own slot is told the answer. -/
theorem lGrdT {si : SI} {g : Nat} {b : Bool} (hb : env g = .bool b) : grd P (.bool b) g true d si K rest env mem = ((b = true → actL P d si K rest (Env.put g (.bool true) env) mem) ∧ (b = false → awpL P K rest (putO d (.tup []) (Env.put g (.bool false) env)) mem)) := by
  cases b <;> simp [grd, put_self hb]
theorem lGrdF {si : SI} {g : Nat} {b : Bool} (hb : env g = .bool b) : grd P (.bool b) g false d si K rest env mem = ((b = false → actL P d si K rest (Env.put g (.bool false) env) mem) ∧ (b = true → awpL P K rest (putO d (.tup []) (Env.put g (.bool true) env)) mem)) := by
  cases b <;> simp [grd, put_self hb]
theorem gTB (b : Bool) {si : SI} {g : Nat} (hb : env g = .bool b) : grd P (.bool b) g true d si K rest env mem = ((b = true → actL P d si K rest (Env.put g (.bool true) env) mem) ∧ (b = false → awpL P K rest (putO d (.tup []) (Env.put g (.bool false) env)) mem)) := lGrdT hb
theorem gFB (b : Bool) {si : SI} {g : Nat} (hb : env g = .bool b) : grd P (.bool b) g false d si K rest env mem = ((b = false → actL P d si K rest (Env.put g (.bool false) env) mem) ∧ (b = true → awpL P K rest (putO d (.tup []) (Env.put g (.bool true) env)) mem)) := lGrdF hb
theorem gTD {si : SI} {g : Nat} {p : Prop} [Decidable p] (hb : env g = .bool (decide p)) : grd P (.bool (decide p)) g true d si K rest env mem = ((p → actL P d si K rest (Env.put g (.bool true) env) mem) ∧ (¬ p → awpL P K rest (putO d (.tup []) (Env.put g (.bool false) env)) mem)) := by
  rw [lGrdT hb]; simp
theorem gFD {si : SI} {g : Nat} {p : Prop} [Decidable p] (hb : env g = .bool (decide p)) : grd P (.bool (decide p)) g false d si K rest env mem = ((¬ p → actL P d si K rest (Env.put g (.bool false) env) mem) ∧ (p → awpL P K rest (putO d (.tup []) (Env.put g (.bool true) env)) mem)) := by
  rw [lGrdF hb]; simp
theorem ieq {a b : Int} : (a == b) = decide (a = b) := by rw [Bool.eq_iff_iff]; simp
theorem ine {a b : Int} : (a != b) = decide (¬ a = b) := by rw [Bool.eq_iff_iff]; simp
theorem toList_inj {x y : ByteArray} (h : x.toList = y.toList) : x = y := by
  rw [ByteArray.toList_eq, ByteArray.toList_eq] at h
  obtain ⟨⟨a⟩⟩ := x
  obtain ⟨⟨b⟩⟩ := y
  simp at h
  rw [h]
theorem seq {x y : ByteArray} : (x.toList == y.toList) = decide (x = y) := by
  rw [Bool.eq_iff_iff]
  simp only [beq_iff_eq, decide_eq_true_eq]
  exact ⟨toList_inj, fun h => by rw [h]⟩
theorem ndec {p : Prop} [Decidable p] : (!decide p) = decide (¬ p) := by by_cases h : p <;> simp [h]

/-- B: where the names of the objects begin that it makes. -/
def compFB (P : Program) (B : Nat) (fn : Func) : Option (AC × List AI) :=
  match fn.body with
  | none => none
  | some c => match compC P B fn.ntmps c, compRL P fn.results.toList with
    | some ac, some rl => some (ac, rl)
    | _, _ => none
def compF (P : Program) (fn : Func) : Option (AC × List AI) := compFB P 0 fn
theorem Fn.ofB (B : Nat) {f n : Nat} {fn : Func} {ac : AC} {rl : List AI} (h1 : P.funcs[f]? = some fn) (h2 : ((fn.name == "runtime.NumGoroutine") || !Nat.ble n fn.ntmps) = false) (h3 : compFB P B fn = some (ac, rl)) : Fn P f n ac rl := by
  unfold compFB at h3
  split at h3
  · cases h3
  · rename_i c hc
    split at h3
    · rename_i a r ha hr
      cases h3
      simp only [Bool.or_eq_false_iff, Bool.not_eq_false'] at h2
      exact ⟨fn, c, B, h1, h2.1, hc, Nat.le_of_ble_eq_true h2.2, ha, hr⟩
    · cases h3
theorem Fn.of {f n : Nat} {fn : Func} {ac : AC} {rl : List AI} (h1 : P.funcs[f]? = some fn) (h2 : ((fn.name == "runtime.NumGoroutine") || !Nat.ble n fn.ntmps) = false) (h3 : compF P fn = some (ac, rl)) : Fn P f n ac rl := Fn.ofB 0 h1 h2 h3

/-- **A loop.** -/
theorem vLoop {a : AC} (I : Nat → Env → Mem → Prop) (n : Nat) (h0 : I n env mem) (h : ∀ n e m, I n e m → awp P a (loopK I n Q) e m) : awp P (.loop a) Q env mem :=
  ⟨I, ⟨n, env, mem, Shift.refl _ _, h0⟩, fun k e m hI => awp_mono a (h k e m hI) fun x e' m' hx => by
    cases x with
    | normal => obtain ⟨n', h1, h2⟩ := hx; exact ⟨n', e', m', h1, Shift.refl _ _, h2⟩
    | exit id => exact hx
    | ret => exact hx⟩
/-- The same where the state may be seen in another way at the start and after each turn. -/
def loopS (I : Nat → Env → Mem → Prop) (n : Nat) (Q : AX → Env → Mem → Prop) : AX → Env → Mem → Prop := fun x e m => match x with | .normal => ∃ n' e2 m2, n' < n ∧ Shift e m e2 m2 ∧ I n' e2 m2 | x => Q x e m
theorem vLoopS {a : AC} (I : Nat → Env → Mem → Prop) (n : Nat) (h0 : ∃ e m, Shift env mem e m ∧ I n e m) (h : ∀ n e m, I n e m → awp P a (loopS I n Q) e m) : awp P (.loop a) Q env mem := by
  obtain ⟨e, m, h1, h2⟩ := h0
  refine ⟨I, ⟨n, e, m, h1, h2⟩, fun k e m hI => awp_mono a (h k e m hI) fun x e' m' hx => ?_⟩
  cases x with
  | normal => exact hx
  | exit id => exact hx
  | ret => exact hx

def forK (n : Nat) (J : Nat → Env → Mem → Prop) (i : Nat) (Q : AX → Env → Mem → Prop) : AX → Env → Mem → Prop := fun x e m => match x with | .normal => i < n ∧ J (i + 1) e m | x => Q x e m
theorem forN {J : Nat → Env → Mem → Prop} {n i : Nat} : forK n J i Q .normal e m = (i < n ∧ J (i + 1) e m) := rfl
theorem forR {J : Nat → Env → Mem → Prop} {n i : Nat} : forK n J i Q .ret e m = Q .ret e m := rfl
theorem forE {J : Nat → Env → Mem → Prop} {n i j : Nat} : forK n J i Q (.exit j) e m = Q (.exit j) e m := rfl

def endK (Q : AX → Env → Mem → Prop) : AX → Env → Mem → Prop := fun x e m => match x with | .normal => False | x => Q x e m
theorem endN : endK Q .normal e m = False := rfl
theorem endR : endK Q .ret e m = Q .ret e m := rfl
theorem endE {j : Nat} : endK Q (.exit j) e m = Q (.exit j) e m := rfl

def forS (n : Nat) (J : Nat → Env → Mem → Prop) (i : Nat) (Q : AX → Env → Mem → Prop) : AX → Env → Mem → Prop := fun x e m => match x with | .normal => i < n ∧ ∃ e2 m2, Shift e m e2 m2 ∧ J (i + 1) e2 m2 | x => Q x e m
theorem forSN {J : Nat → Env → Mem → Prop} {n i : Nat} : forS n J i Q .normal e m = (i < n ∧ ∃ e2 m2, Shift e m e2 m2 ∧ J (i + 1) e2 m2) := rfl
theorem forSR {J : Nat → Env → Mem → Prop} {n i : Nat} : forS n J i Q .ret e m = Q .ret e m := rfl
theorem forSE {J : Nat → Env → Mem → Prop} {n i j : Nat} : forS n J i Q (.exit j) e m = Q (.exit j) e m := rfl
/-- **A loop that counts from 0 to n, where the state may be seen in another way at the start and after each turn.** -/
theorem vForS {a : AC} (n : Nat) (J : Nat → Env → Mem → Prop) (h0 : ∃ e m, Shift env mem e m ∧ J 0 e m) (h : ∀ i e m, i < n → (i : Int) < (n : Int) → J i e m → awp P a (forS n J i Q) e m) (h1 : ∀ e m, J n e m → awp P a (endK Q) e m) : awp P (.loop a) Q env mem := by
  obtain ⟨e0, m0, hs, hJ0⟩ := h0
  refine vLoopS (fun k e m => ∃ i, i + k = n ∧ J i e m) n ⟨e0, m0, hs, 0, by omega, hJ0⟩ fun k e m ⟨i, hk, hJ⟩ => ?_
  by_cases hi : i < n
  · refine awp_mono a (h i e m hi (by omega) hJ) fun x e' m' hx => ?_
    cases x with
    | normal => obtain ⟨_, e2, m2, h2, h3⟩ := hx; exact ⟨k - 1, e2, m2, by omega, h2, i + 1, by omega, h3⟩
    | exit id => exact hx
    | ret => exact hx
  · obtain rfl : i = n := by omega
    refine awp_mono a (h1 e m hJ) fun x e' m' hx => ?_
    cases x with
    | normal => exact hx.elim
    | exit id => exact hx
    | ret => exact hx

/-- **A loop that counts from 0 to n.** -/
theorem vFor {a : AC} (n : Nat) (J : Nat → Env → Mem → Prop) (h0 : J 0 env mem) (h : ∀ i e m, i < n → (i : Int) < (n : Int) → J i e m → awp P a (forK n J i Q) e m) (h1 : ∀ e m, J n e m → awp P a (endK Q) e m) : awp P (.loop a) Q env mem := by
  refine vLoop (fun k e m => ∃ i, i + k = n ∧ J i e m) n ⟨0, by omega, h0⟩ fun k e m ⟨i, hk, hJ⟩ => ?_
  by_cases hi : i < n
  · refine awp_mono a (h i e m hi (by omega) hJ) fun x e' m' hx => ?_
    cases x with
    | normal => exact ⟨k - 1, by have := hx.1; omega, i + 1, by have := hx.1; omega, hx.2⟩
    | exit id => exact hx
    | ret => exact hx
  · obtain rfl : i = n := by omega
    refine awp_mono a (h1 e m hJ) fun x e' m' hx => ?_
    cases x with
    | normal => exact hx.elim
    | exit id => exact hx
    | ret => exact hx

theorem vL_join {r : Option (Prop × AV)} (G : AV → Prop) (h : ∃ c v, r = some (c, v) ∧ c ∧ G v) (k : ∀ v, G v → awpL P K rest (putO d v env) mem) : vL P r d K rest env mem := by
  obtain ⟨c, v, rfl, hc, hG⟩ := h
  exact ⟨hc, k v hG⟩
/-- What an instruction may leave in more ways than one. -/
theorem eL_join {r : Option (Prop × AV × Mem)} (G : AV → Mem → Prop) (h : ∃ c v m, r = some (c, v, m) ∧ c ∧ G v m) (k : ∀ v m, G v m → awpL P K rest (putO d v env) m) : eL P r d K rest env := by
  obtain ⟨c, v, m, rfl, hc, hG⟩ := h
  exact ⟨hc, k v m hG⟩
theorem all1 {p : Nat → Prop} : (∀ i, i < 1 → p i) = p 0 := propext ⟨fun h => h 0 (by omega), fun h i hi => (show i = 0 by omega) ▸ h⟩

theorem all2 {p : Nat → Prop} : (∀ i, i < 2 → p i) = (p 0 ∧ p 1) := propext ⟨fun h => ⟨h 0 (by omega), h 1 (by omega)⟩, fun h i hi => by
  have : i = 0 ∨ i = 1 := by omega
  rcases this with e | e <;> subst e
  · exact h.1
  · exact h.2⟩

/-! The shapes of values. -/
theorem cells_undef : AV.cells .undef = [.undef] := rfl
theorem okv_undef : AV.okv .undef = false := rfl
theorem isCell_undef : AV.isCell .undef = false := rfl
theorem isFz0_undef : isFz0 .undef = false := rfl
theorem wk0_undef : wk0 .undef = .undef := rfl
theorem wk1_undef : wk1 .undef = .undef := rfl
theorem wk_undef : wk .undef = .undef := rfl
theorem frz0_undef : frz0 mem .undef = none := rfl
theorem frzA_undef : frzA .undef mem = frz0 mem .undef := rfl
theorem cells_int {k : IntKind} {n : Int} : AV.cells (.int k n) = [(.int k n)] := rfl
theorem okv_int {k : IntKind} {n : Int} : AV.okv (.int k n) = true := rfl
theorem isCell_int {k : IntKind} {n : Int} : AV.isCell (.int k n) = true := rfl
theorem isFz0_int {k : IntKind} {n : Int} : isFz0 (.int k n) = true := rfl
theorem wk0_int {k : IntKind} {n : Int} : wk0 (.int k n) = (.int k n) := rfl
theorem wk1_int {k : IntKind} {n : Int} : wk1 (.int k n) = (.int k n) := rfl
theorem wk_int {k : IntKind} {n : Int} : wk (.int k n) = (.int k n) := rfl
theorem frz0_int {k : IntKind} {n : Int} : frz0 mem (.int k n) = some (True, (.int k n), mem) := rfl
theorem frzA_int {k : IntKind} {n : Int} : frzA (.int k n) mem = frz0 mem (.int k n) := rfl
theorem cells_bool {b : Bool} : AV.cells (.bool b) = [(.bool b)] := rfl
theorem okv_bool {b : Bool} : AV.okv (.bool b) = true := rfl
theorem isCell_bool {b : Bool} : AV.isCell (.bool b) = true := rfl
theorem isFz0_bool {b : Bool} : isFz0 (.bool b) = true := rfl
theorem wk0_bool {b : Bool} : wk0 (.bool b) = (.bool b) := rfl
theorem wk1_bool {b : Bool} : wk1 (.bool b) = (.bool b) := rfl
theorem wk_bool {b : Bool} : wk (.bool b) = (.bool b) := rfl
theorem frz0_bool {b : Bool} : frz0 mem (.bool b) = some (True, (.bool b), mem) := rfl
theorem frzA_bool {b : Bool} : frzA (.bool b) mem = frz0 mem (.bool b) := rfl
theorem cells_str {s : ByteArray} : AV.cells (.str s) = [(.str s)] := rfl
theorem okv_str {s : ByteArray} : AV.okv (.str s) = true := rfl
theorem isCell_str {s : ByteArray} : AV.isCell (.str s) = true := rfl
theorem isFz0_str {s : ByteArray} : isFz0 (.str s) = true := rfl
theorem wk0_str {s : ByteArray} : wk0 (.str s) = (.str s) := rfl
theorem wk1_str {s : ByteArray} : wk1 (.str s) = (.str s) := rfl
theorem wk_str {s : ByteArray} : wk (.str s) = (.str s) := rfl
theorem frz0_str {s : ByteArray} : frz0 mem (.str s) = some (True, (.str s), mem) := rfl
theorem frzA_str {s : ByteArray} : frzA (.str s) mem = frz0 mem (.str s) := rfl
theorem cells_nilp : AV.cells .nilp = [.nilp] := rfl
theorem okv_nilp : AV.okv .nilp = true := rfl
theorem isCell_nilp : AV.isCell .nilp = true := rfl
theorem isFz0_nilp : isFz0 .nilp = true := rfl
theorem wk0_nilp : wk0 .nilp = .nilp := rfl
theorem wk1_nilp : wk1 .nilp = .nilp := rfl
theorem wk_nilp : wk .nilp = .nilp := rfl
theorem frz0_nilp : frz0 mem .nilp = some (True, .nilp, mem) := rfl
theorem frzA_nilp : frzA .nilp mem = frz0 mem .nilp := rfl
theorem cells_nilf : AV.cells .nilf = [.nilf] := rfl
theorem okv_nilf : AV.okv .nilf = true := rfl
theorem isCell_nilf : AV.isCell .nilf = true := rfl
theorem isFz0_nilf : isFz0 .nilf = true := rfl
theorem wk0_nilf : wk0 .nilf = .nilf := rfl
theorem wk1_nilf : wk1 .nilf = .nilf := rfl
theorem wk_nilf : wk .nilf = .nilf := rfl
theorem frz0_nilf : frz0 mem .nilf = some (True, .nilf, mem) := rfl
theorem frzA_nilf : frzA .nilf mem = frz0 mem .nilf := rfl
theorem cells_cap0 : AV.cells .cap0 = [.cap0] := rfl
theorem okv_cap0 : AV.okv .cap0 = true := rfl
theorem isCell_cap0 : AV.isCell .cap0 = true := rfl
theorem isFz0_cap0 : isFz0 .cap0 = true := rfl
theorem wk0_cap0 : wk0 .cap0 = .fs 0 (fun _ => .undef) := rfl
theorem wk1_cap0 : wk1 .cap0 = .fs 0 (fun _ => .undef) := rfl
theorem wk_cap0 : wk .cap0 = .fs 0 (fun _ => .undef) := rfl
theorem frz0_cap0 : frz0 mem .cap0 = some (True, .cap0, mem) := rfl
theorem frzA_cap0 : frzA .cap0 mem = frz0 mem .cap0 := rfl
theorem cells_fs {n : Nat} {f : Nat → AV} : AV.cells (.fs n f) = [(.fs n f)] := rfl
theorem okv_fs {n : Nat} {f : Nat → AV} : AV.okv (.fs n f) = true := rfl
theorem isCell_fs {n : Nat} {f : Nat → AV} : AV.isCell (.fs n f) = true := rfl
theorem isFz0_fs {n : Nat} {f : Nat → AV} : isFz0 (.fs n f) = true := rfl
theorem wk0_fs {n : Nat} {f : Nat → AV} : wk0 (.fs n f) = (.fs n f) := rfl
theorem wk1_fs {n : Nat} {f : Nat → AV} : wk1 (.fs n f) = (.fs n f) := rfl
theorem wk_fs {n : Nat} {f : Nat → AV} : wk (.fs n f) = (.fs n f) := rfl
theorem frz0_fs {n : Nat} {f : Nat → AV} : frz0 mem (.fs n f) = some (True, (.fs n f), mem) := rfl
theorem frzA_fs {n : Nat} {f : Nat → AV} : frzA (.fs n f) mem = frz0 mem (.fs n f) := rfl
theorem cells_sl {a b n : Nat} : AV.cells (.sl a b n) = [(.sl a b n)] := rfl
theorem okv_sl {a b n : Nat} : AV.okv (.sl a b n) = true := rfl
theorem isCell_sl {a b n : Nat} : AV.isCell (.sl a b n) = true := rfl
theorem isFz0_sl {a b n : Nat} : isFz0 (.sl a b n) = false := rfl
theorem wk0_sl {a b n : Nat} : wk0 (.sl a b n) = (.sl a b n) := rfl
theorem wk1_sl {a b n : Nat} : wk1 (.sl a b n) = (.sl a b n) := rfl
theorem wk_sl {a b n : Nat} : wk (.sl a b n) = (.sl a b n) := rfl
theorem frz0_sl {a b n : Nat} : frz0 mem (.sl a b n) = (match mem a with | .row ver' _ _ _ f => some (b = ver', .fs n f, Mem.set a (.dead (ver' + 1)) mem) | _ => none) := rfl
theorem frzA_sl {a b n : Nat} : frzA (.sl a b n) mem = frz0 mem (.sl a b n) := rfl
theorem cells_fp {cs : List AV} : AV.cells (.fp cs) = [(.fp cs)] := rfl
theorem okv_fp {cs : List AV} : AV.okv (.fp cs) = true := rfl
theorem isCell_fp {cs : List AV} : AV.isCell (.fp cs) = true := rfl
theorem isFz0_fp {cs : List AV} : isFz0 (.fp cs) = true := rfl
theorem wk0_fp {cs : List AV} : wk0 (.fp cs) = (.fp cs) := rfl
theorem wk1_fp {cs : List AV} : wk1 (.fp cs) = (.fp cs) := rfl
theorem wk_fp {cs : List AV} : wk (.fp cs) = (.fp cs) := rfl
theorem frz0_fp {cs : List AV} : frz0 mem (.fp cs) = some (True, (.fp cs), mem) := rfl
theorem frzA_fp {cs : List AV} : frzA (.fp cs) mem = frz0 mem (.fp cs) := rfl
theorem cells_ptr {a b n : Nat} : AV.cells (.ptr a b n) = [(.ptr a b n)] := rfl
theorem okv_ptr {a b n : Nat} : AV.okv (.ptr a b n) = true := rfl
theorem isCell_ptr {a b n : Nat} : AV.isCell (.ptr a b n) = true := rfl
theorem isFz0_ptr {a b n : Nat} : isFz0 (.ptr a b n) = false := rfl
theorem wk0_ptr {a b n : Nat} : wk0 (.ptr a b n) = (.ptr a b n) := rfl
theorem wk1_ptr {a b n : Nat} : wk1 (.ptr a b n) = (.ptr a b n) := rfl
theorem wk_ptr {a b n : Nat} : wk (.ptr a b n) = (.ptr a b n) := rfl
theorem frz0_ptr {a b n : Nat} : frz0 mem (.ptr a b n) = none := rfl
theorem frzA_ptr {a b n : Nat} : frzA (.ptr a b n) mem = frz0 mem (.ptr a b n) := rfl
theorem cells_rp {a b c n : Nat} : AV.cells (.rp a b c n) = [(.rp a b c n)] := rfl
theorem okv_rp {a b c n : Nat} : AV.okv (.rp a b c n) = true := rfl
theorem isCell_rp {a b c n : Nat} : AV.isCell (.rp a b c n) = true := rfl
theorem isFz0_rp {a b c n : Nat} : isFz0 (.rp a b c n) = false := rfl
theorem wk0_rp {a b c n : Nat} : wk0 (.rp a b c n) = (.rp a b c n) := rfl
theorem wk1_rp {a b c n : Nat} : wk1 (.rp a b c n) = (.rp a b c n) := rfl
theorem wk_rp {a b c n : Nat} : wk (.rp a b c n) = (.rp a b c n) := rfl
theorem frz0_rp {a b c n : Nat} : frz0 mem (.rp a b c n) = none := rfl
theorem frzA_rp {a b c n : Nat} : frzA (.rp a b c n) mem = frz0 mem (.rp a b c n) := rfl
theorem cells_mp {a b : Nat} : AV.cells (.mp a b) = [(.mp a b)] := rfl
theorem okv_mp {a b : Nat} : AV.okv (.mp a b) = true := rfl
theorem isCell_mp {a b : Nat} : AV.isCell (.mp a b) = true := rfl
theorem isFz0_mp {a b : Nat} : isFz0 (.mp a b) = false := rfl
theorem wk0_mp {a b : Nat} : wk0 (.mp a b) = (.mp a b) := rfl
theorem wk1_mp {a b : Nat} : wk1 (.mp a b) = (.mp a b) := rfl
theorem wk_mp {a b : Nat} : wk (.mp a b) = (.mp a b) := rfl
theorem frz0_mp {a b : Nat} : frz0 mem (.mp a b) = none := rfl
theorem frzA_mp {a b : Nat} : frzA (.mp a b) mem = frz0 mem (.mp a b) := rfl
theorem cells_agg {cs : List AV} : AV.cells (.agg cs) = cs := rfl
theorem okv_agg {cs : List AV} : AV.okv (.agg cs) = true := rfl
theorem isCell_agg {cs : List AV} : AV.isCell (.agg cs) = false := rfl
theorem isFz0_agg {cs : List AV} : isFz0 (.agg cs) = false := rfl
theorem wk0_agg {cs : List AV} : wk0 (.agg cs) = (.agg cs) := rfl
theorem wk1_agg {cs : List AV} : wk1 (.agg cs) = (.agg (cs.map wk0)) := rfl
theorem wk_agg {cs : List AV} : wk (.agg cs) = (.agg (cs.map wk0)) := rfl
theorem frz0_agg {cs : List AV} : frz0 mem (.agg cs) = none := rfl
theorem cells_tup {cs : List AV} : AV.cells (.tup cs) = [(.tup cs)] := rfl
theorem okv_tup {cs : List AV} : AV.okv (.tup cs) = false := rfl
theorem isCell_tup {cs : List AV} : AV.isCell (.tup cs) = false := rfl
theorem isFz0_tup {cs : List AV} : isFz0 (.tup cs) = false := rfl
theorem wk0_tup {cs : List AV} : wk0 (.tup cs) = (.tup cs) := rfl
theorem wk1_tup {cs : List AV} : wk1 (.tup cs) = (.tup cs) := rfl
theorem wk_tup {cs : List AV} : wk (.tup cs) = (.tup (cs.map wk1)) := rfl
theorem frz0_tup {cs : List AV} : frz0 mem (.tup cs) = none := rfl
theorem frzA_tup {cs : List AV} : frzA (.tup cs) mem = frz0 mem (.tup cs) := rfl
theorem cells_fn {g : Nat} {cs : List AV} : AV.cells (.fn g cs) = [(.fn g cs)] := rfl
theorem okv_fn {g : Nat} {cs : List AV} : AV.okv (.fn g cs) = true := rfl
theorem isCell_fn {g : Nat} {cs : List AV} : AV.isCell (.fn g cs) = true := rfl
theorem isFz0_fn {g : Nat} {cs : List AV} : isFz0 (.fn g cs) = false := rfl
theorem wk0_fn {g : Nat} {cs : List AV} : wk0 (.fn g cs) = (.fn g cs) := rfl
theorem wk1_fn {g : Nat} {cs : List AV} : wk1 (.fn g cs) = (.fn g cs) := rfl
theorem wk_fn {g : Nat} {cs : List AV} : wk (.fn g cs) = (.fn g (cs.map wk0)) := rfl
theorem frz0_fn {g : Nat} {cs : List AV} : frz0 mem (.fn g cs) = none := rfl
theorem frzA_agg {cs : List AV} : frzA (.agg cs) mem = (match frzL cs mem with | some (c, r, m) => some (c, .agg r, m) | none => none) := rfl
theorem frzA_fn {g : Nat} {cs : List AV} : frzA (.fn g cs) mem = bif cs.all isFz0 then some (True, .fn g cs, mem) else none := rfl

/-- A slice compared with nil. -/
def nL (P : Program) (v : AV) (ng : Bool) (d : Option Nat) (K : Env → Mem → Prop) (rest : List AOp) (env : Env) (mem : Mem) : Prop :=
  match v with
  | .fs n _ => ∀ b : Bool, (0 < n → b = ng) → awpL P K rest (putO d (.bool b) env) mem
  | .cap0 => awpL P K rest (putO d (.bool (!ng)) env) mem
  | .sl id ver n => match mem id with
    | .row ver' _ _ _ _ => ver = ver' ∧ ∀ b : Bool, (0 < n → b = ng) → awpL P K rest (putO d (.bool b) env) mem
    | _ => False
  | _ => False
theorem aN {ng : Bool} {x : Opd} : actL P d (.isnil ng x) K rest env mem = nL P (x.ev env) ng d K rest env mem := rfl
theorem aB : actL P d .bad K rest env mem = False := rfl
theorem nFs {ng : Bool} {n : Nat} {f : Nat → AV} : nL P (.fs n f) ng d K rest env mem = (awpL P K rest (putO d (.bool ng) env) mem ∧ (n = 0 → awpL P K rest (putO d (.bool (!ng)) env) mem)) := by
  apply propext
  refine ⟨fun h => ⟨h ng fun _ => rfl, fun h0 => h _ fun h1 => by omega⟩, fun h b hb => ?_⟩
  rcases Nat.eq_zero_or_pos n with h0 | h0
  · cases b <;> cases ng <;> first | exact h.1 | exact h.2 h0
  · rw [hb h0]; exact h.1
theorem nCap0 {ng : Bool} : nL P .cap0 ng d K rest env mem = awpL P K rest (putO d (.bool (!ng)) env) mem := rfl
theorem nSl {ng : Bool} {id ver n : Nat} : nL P (.sl id ver n) ng d K rest env mem = (match mem id with | .row ver' _ _ _ _ => ver = ver' ∧ ∀ b : Bool, (0 < n → b = ng) → awpL P K rest (putO d (.bool b) env) mem | _ => False) := rfl
theorem keyEq_str {a b : ByteArray} : keyEq (.string a) (.string b) = decide (a = b) := rfl
theorem keyEq_int {j k : IntKind} {a b : Int} : keyEq (.int j a) (.int k b) = (decide (j = k) && decide (a = b)) := rfl
theorem elA_some {k : IntKind} {n : Int} : elA (some k) n = .int k n := rfl
theorem elA_none {n : Int} : elA none n = .bool (n == 1) := rfl

/-! ### regions whose order is open: in the order of a schedule -/
/-- Nothing that the region calls turns anything of the caller's. -/
def allL : Nat → Bool := fun _ => true
theorem restr_all : restr allL m = m := rfl
theorem agree_all {m0 : Mem} : Agree allL m0 m = (m = m0) := propext ⟨fun h => funext fun i => h i rfl, fun h i _ => h ▸ rfl⟩

/-- One object is read out of turn. -/
def oneL (k : Nat) : Nat → Bool := fun i => decide (i = k)
theorem restr_one {k : Nat} : restr (oneL k) m k = m k := by simp [restr, oneL]
theorem agree_one {k : Nat} {m0 : Mem} : Agree (oneL k) m0 m = (m k = m0 k) := propext ⟨fun h => h k (by simp [oneL]), fun h i hi => by
  have : i = k := by simpa [oneL] using hi
  rw [this]; exact h⟩

def schO (P : Program) (oo : Option AOp) (i : Nat) (al : List AOp) (b : Nat) (L : Nat → Bool) (m0 : Mem) (K : Env → Mem → Prop) (l : List Nat) (env : Env) (mem : Mem) : Prop :=
  match oo with
  | none => False
  | some o => bif o.isV then
      match o.qval env (restr L m0) with
      | some (c, v) => c ∧ aSched P al b L m0 K l (putO o.dst v env) mem
      | none => False
    else o.wp P env mem fun e m => (bif Nat.beq i b then True else Agree L m0 m) ∧ aSched P al b L m0 K l e m
def schV (P : Program) (r : Option (Prop × AV)) (d : Option Nat) (al : List AOp) (b : Nat) (L : Nat → Bool) (m0 : Mem) (K : Env → Mem → Prop) (l : List Nat) (env : Env) (mem : Mem) : Prop :=
  match r with
  | some (c, v) => c ∧ aSched P al b L m0 K l (putO d v env) mem
  | none => False
def schK (P : Program) (i : Nat) (d : Option Nat) (al : List AOp) (b : Nat) (L : Nat → Bool) (m0 : Mem) (K : Env → Mem → Prop) (l : List Nat) (env : Env) : AV → Mem → Prop := fun v m => (bif Nat.beq i b then True else Agree L m0 m) ∧ aSched P al b L m0 K l (putO d v env) m
def schC (P : Program) (f : AV) (args : List AV) (i : Nat) (d : Option Nat) (al : List AOp) (b : Nat) (L : Nat → Bool) (m0 : Mem) (K : Env → Mem → Prop) (l : List Nat) (env : Env) (mem : Mem) : Prop :=
  match f with
  | .fn g caps => CallW P g (args ++ caps) mem (schK P i d al b L m0 K l env)
  | _ => False
def schE (P : Program) (r : Option (Prop × AV × Mem)) (i : Nat) (d : Option Nat) (al : List AOp) (b : Nat) (L : Nat → Bool) (m0 : Mem) (K : Env → Mem → Prop) (l : List Nat) (env : Env) : Prop :=
  match r with
  | some (c, v, m) => c ∧ (bif Nat.beq i b then True else Agree L m0 m) ∧ aSched P al b L m0 K l (putO d v env) m
  | none => False
theorem vAny {al : List AOp} {deps : List (List Nat)} (l : List Nat) (b : Nat) (L : Nat → Bool) (hB : schedB al deps b l (List.replicate al.length false) = true) (hl : (Nat.beq al.length deps.length && Nat.beq l.length al.length && Nat.ble al.length b || Nat.beq al.length deps.length && Nat.beq l.length al.length) = true)
    (h : aSched P al b L mem (Q .normal) l env mem) : awp P (.any al deps) Q env mem := by
  have hl' : al.length = deps.length ∧ l.length = al.length := by
    simp only [Bool.or_eq_true, Bool.and_eq_true] at hl
    rcases hl with ⟨⟨h1, h2⟩, _⟩ | ⟨h1, h2⟩ <;> exact ⟨Nat.eq_of_beq_eq_true h1, Nat.eq_of_beq_eq_true h2⟩
  have := aAny_sched (P := P) (al := al) (deps := deps) (b := b) (L := L) (m0 := mem) (K := Q .normal) hl'.1 l (List.replicate al.length false) env mem hB (by simp [hl'.1]) (.inr fun i _ => rfl) h
  rw [hl'.2] at this
  exact ⟨_, this⟩
theorem sNil {al : List AOp} {b : Nat} {L : Nat → Bool} {m0 : Mem} : aSched P al b L m0 K [] env mem = K env mem := rfl
theorem sCons {al : List AOp} {b : Nat} {L : Nat → Bool} {m0 : Mem} {i : Nat} {l : List Nat} : aSched P al b L m0 K (i :: l) env mem = schO P al[i]? i al b L m0 K l env mem := by
  simp only [aSched, schO]; rfl
theorem sOV {al : List AOp} {b : Nat} {L : Nat → Bool} {m0 : Mem} {i : Nat} {l : List Nat} {x : AI} : schO P (some ⟨d, none, .v x⟩) i al b L m0 K l env mem = schV P (x.val env (restr L m0)) d al b L m0 K l env mem := by
  simp only [schO, AOp.isV, cond_true, AOp.qval, schV]
theorem sVS {al : List AOp} {b : Nat} {L : Nat → Bool} {m0 : Mem} {l : List Nat} {c : Prop} {v : AV} : schV P (some (c, v)) d al b L m0 K l env mem = (c ∧ aSched P al b L m0 K l (putO d v env) mem) := rfl
theorem sOC {al : List AOp} {b : Nat} {L : Nat → Bool} {m0 : Mem} {i : Nat} {l : List Nat} {f : Opd} {args : List Opd} : schO P (some ⟨d, none, .call f args⟩) i al b L m0 K l env mem = schC P (f.ev env) (args.map (Opd.ev env)) i d al b L m0 K l env mem := by
  simp only [schO, AOp.isV, cond_false, AOp.wp, AOp.act, schC]
  cases f.ev env <;> rfl
theorem sCS {al : List AOp} {b : Nat} {L : Nat → Bool} {m0 : Mem} {i : Nat} {l : List Nat} {g : Nat} {caps args : List AV} : schC P (.fn g caps) args i d al b L m0 K l env mem = CallW P g (args ++ caps) mem (schK P i d al b L m0 K l env) := rfl
theorem schK_at {al : List AOp} {b : Nat} {L : Nat → Bool} {m0 : Mem} {i : Nat} {l : List Nat} {v : AV} : schK P i d al b L m0 K l env v m = ((bif Nat.beq i b then True else Agree L m0 m) ∧ aSched P al b L m0 K l (putO d v env) m) := rfl
theorem sOE {al : List AOp} {b : Nat} {L : Nat → Bool} {m0 : Mem} {i : Nat} {l : List Nat} {x : EI} : schO P (some ⟨d, none, .e x⟩) i al b L m0 K l env mem = schE P (x.run env mem) i d al b L m0 K l env := by
  simp only [schO, AOp.isV, cond_false, AOp.wp, AOp.act, schE]
  cases x.run env mem <;> rfl
theorem sES {al : List AOp} {b : Nat} {L : Nat → Bool} {m0 : Mem} {i : Nat} {l : List Nat} {c : Prop} {v : AV} : schE P (some (c, v, m)) i d al b L m0 K l env = (c ∧ (bif Nat.beq i b then True else Agree L m0 m) ∧ aSched P al b L m0 K l (putO d v env) m) := rfl

/-- What is left behind an operation that is passed over. -/
def schS (P : Program) (si : SI) (i : Nat) (d : Option Nat) (al : List AOp) (b : Nat) (L : Nat → Bool) (m0 : Mem) (K : Env → Mem → Prop) (l : List Nat) (env : Env) (mem : Mem) : Prop :=
  match si with
  | .v _ => aSched P al b L m0 K l (putO d (.tup []) env) mem
  | _ => (bif Nat.beq i b then True else Agree L m0 mem) ∧ aSched P al b L m0 K l (putO d (.tup []) env) mem
def schG (P : Program) (v : AV) (g : Nat) (want : Bool) (si : SI) (i : Nat) (d : Option Nat) (al : List AOp) (b : Nat) (L : Nat → Bool) (m0 : Mem) (K : Env → Mem → Prop) (l : List Nat) (env : Env) (mem : Mem) : Prop :=
  match v with
  | .bool t => match t, want with
    | true, true => schO P (some ⟨d, none, si⟩) i al b L m0 K l env mem
    | false, false => schO P (some ⟨d, none, si⟩) i al b L m0 K l env mem
    | _, _ => schS P si i d al b L m0 K l env mem
  | .tup [] => schS P si i d al b L m0 K l env mem
  | _ => False
section
variable {al : List AOp} {b : Nat} {L : Nat → Bool} {m0 : Mem} {i : Nat} {l : List Nat} {si : SI} {g : Nat} {want : Bool}
theorem sOG : schO P (some ⟨d, some (g, want), si⟩) i al b L m0 K l env mem = schG P (env g) g want si i d al b L m0 K l env mem := by
  cases hg : env g with
  | bool t =>
    cases si <;> cases t <;> cases want <;> simp only [schO, schG, schS, AOp.isV, AOp.qval, AOp.wp, hg, cond_true, cond_false, true_and] <;> rfl
  | tup cs =>
    cases cs with
    | nil => cases si <;> simp only [schO, schG, schS, AOp.isV, AOp.qval, AOp.wp, hg, cond_true, cond_false, true_and]
    | cons c cs => cases si <;> simp only [schO, schG, AOp.isV, AOp.qval, AOp.wp, hg, cond_true, cond_false]
  | _ => cases si <;> simp only [schO, schG, AOp.isV, AOp.qval, AOp.wp, hg, cond_true, cond_false]
theorem sGN : schG P (.tup []) g want si i d al b L m0 K l env mem = schS P si i d al b L m0 K l env mem := rfl
theorem sGTT : schG P (.bool true) g true si i d al b L m0 K l env mem = schO P (some ⟨d, none, si⟩) i al b L m0 K l env mem := rfl
theorem sGFF : schG P (.bool false) g false si i d al b L m0 K l env mem = schO P (some ⟨d, none, si⟩) i al b L m0 K l env mem := rfl
theorem sGTF : schG P (.bool true) g false si i d al b L m0 K l env mem = schS P si i d al b L m0 K l env mem := rfl
theorem sGFT : schG P (.bool false) g true si i d al b L m0 K l env mem = schS P si i d al b L m0 K l env mem := rfl
theorem sSV {x : AI} : schS P (.v x) i d al b L m0 K l env mem = aSched P al b L m0 K l (putO d (.tup []) env) mem := rfl
theorem sSE {x : EI} : schS P (.e x) i d al b L m0 K l env mem = ((bif Nat.beq i b then True else Agree L m0 mem) ∧ aSched P al b L m0 K l (putO d (.tup []) env) mem) := rfl
theorem sSC {f : Opd} {args : List Opd} : schS P (.call f args) i d al b L m0 K l env mem = ((bif Nat.beq i b then True else Agree L m0 mem) ∧ aSched P al b L m0 K l (putO d (.tup []) env) mem) := rfl
theorem sGTB (t : Bool) (hb : env g = .bool t) : schG P (.bool t) g true si i d al b L m0 K l env mem = ((t = true → schO P (some ⟨d, none, si⟩) i al b L m0 K l (Env.put g (.bool true) env) mem) ∧ (t = false → schS P si i d al b L m0 K l (Env.put g (.bool false) env) mem)) := by
  cases t <;> simp [schG, put_self hb]
theorem sGFB (t : Bool) (hb : env g = .bool t) : schG P (.bool t) g false si i d al b L m0 K l env mem = ((t = false → schO P (some ⟨d, none, si⟩) i al b L m0 K l (Env.put g (.bool false) env) mem) ∧ (t = true → schS P si i d al b L m0 K l (Env.put g (.bool true) env) mem)) := by
  cases t <;> simp [schG, put_self hb]
theorem sGTD {p : Prop} [Decidable p] (hb : env g = .bool (decide p)) : schG P (.bool (decide p)) g true si i d al b L m0 K l env mem = ((p → schO P (some ⟨d, none, si⟩) i al b L m0 K l (Env.put g (.bool true) env) mem) ∧ (¬ p → schS P si i d al b L m0 K l (Env.put g (.bool false) env) mem)) := by
  rw [sGTB _ hb]; simp
theorem sGFD {p : Prop} [Decidable p] (hb : env g = .bool (decide p)) : schG P (.bool (decide p)) g false si i d al b L m0 K l env mem = ((¬ p → schO P (some ⟨d, none, si⟩) i al b L m0 K l (Env.put g (.bool false) env) mem) ∧ (p → schS P si i d al b L m0 K l (Env.put g (.bool true) env) mem)) := by
  rw [sGFB _ hb]; simp
end

theorem ver_dead {v : Nat} : AO.ver (.dead v) = v := rfl
theorem ver_var {v : Nat} {cs : List AV} : AO.ver (.var v cs) = v := rfl
theorem ver_row {v a b c : Nat} {f : Nat → AV} : AO.ver (.row v a b c f) = v := rfl
theorem bEq {b i j : Nat} : (b + i = b + j) = (i = j) := propext ⟨Nat.add_left_cancel, fun h => h ▸ rfl⟩
theorem bEq0 {b j : Nat} : (b = b + j) = (j = 0) := propext ⟨fun h => by omega, fun h => by omega⟩
theorem bEq1 {b j : Nat} : (b + j = b) = (j = 0) := propext ⟨fun h => by omega, fun h => by omega⟩
theorem bNe {o b : Nat} (h : o < b) : ∀ k, (o = b + k) = False := fun k => eq_false (by omega)
theorem bNe' {o b : Nat} (h : o < b) : ∀ k, (b + k = o) = False := fun k => eq_false (by omega)
/-- What lies before b has not turned. -/
def Keeps (b : Nat) (m m' : Mem) : Prop := ∀ i, i < b → m' i = m i
theorem keeps_refl {b : Nat} {m : Mem} : Keeps b m m = True := eq_true fun _ _ => rfl
theorem keeps_set {b k : Nat} {o : AO} {m m' : Mem} : Keeps b m (Mem.set (b + k) o m') = Keeps b m m' :=
  propext ⟨fun h i hi => by rw [← h i hi, set_ne (by omega)], fun h i hi => by rw [set_ne (by omega)]; exact h i hi⟩
theorem keeps_set0 {b : Nat} {o : AO} {m m' : Mem} : Keeps b m (Mem.set b o m') = Keeps b m m' := keeps_set (k := 0)
theorem Keeps.trans {b c : Nat} {m m' m'' : Mem} (h : Keeps b m m') (k : Keeps c m' m'') (hbc : b ≤ c) : Keeps b m m'' := fun i hi => by rw [k i (by omega), h i hi]
theorem Keeps.set {b k : Nat} {o : AO} {m m' : Mem} (h : Keeps b m m') (hk : b ≤ k) : Keeps b m (Mem.set k o m') := fun i hi => by rw [set_ne (by omega)]; exact h i hi
theorem beqD {a b : Nat} : Nat.beq a b = decide (a = b) := by rw [Bool.eq_iff_iff]; simp
theorem bleD {a b : Nat} : Nat.ble a b = decide (a ≤ b) := by rw [Bool.eq_iff_iff]; simp
theorem bltD {a b : Nat} : Nat.blt a b = decide (a < b) := by rw [Bool.eq_iff_iff]; simp [Nat.blt_eq]

/-- A row that grows one by one from nothing. -/
def Acc (site e sz n : Nat) (p : Nat → AV → Prop) (v : AV) (mem : Mem) : Prop := (n = 0 ∧ v = .cap0) ∨ ∃ ver g, v = .sl site ver n ∧ mem site = .row ver e sz n g ∧ ∀ i, i < n → p i (g i)
theorem Acc.none {site e sz : Nat} {p : Nat → AV → Prop} : Acc site e sz 0 p .cap0 mem := .inl ⟨rfl, rfl⟩
theorem Acc.first {site e sz V : Nat} {p : Nat → AV → Prop} {v : AV} (hv : p 0 v) : Acc site e sz 1 p (.sl site V 1) (Mem.set site (.row V e sz 1 fun k => [v].getD k .undef) mem) :=
  .inr ⟨V, _, rfl, set_same _ _ _, fun i hi => (show i = 0 by omega) ▸ hv⟩
theorem Acc.push {site e sz V i : Nat} {p : Nat → AV → Prop} {v : AV} {g : Nat → AV} (hg : ∀ k, k < i → p k (g k)) (hv : p i v) : Acc site e sz (i + 1) p (.sl site V (i + 1)) (Mem.set site (.row V e sz (i + 1) fun k => bif decide (k < i) then g k else [v].getD (k - i) .undef) mem) := by
  refine .inr ⟨V, _, rfl, set_same _ _ _, fun k hk => ?_⟩
  by_cases h : k < i
  · simp only [h, decide_true, cond_true]; exact hg k h
  · obtain rfl : k = i := by omega
    simp only [Nat.lt_irrefl, decide_false, cond_false, Nat.sub_self, List.getD_cons_zero]; exact hv
theorem Acc.first2 {site e sz V : Nat} {p : Nat → AV → Prop} {v w : AV} (hv : p 0 v) (hw : p 1 w) : Acc site e sz 2 p (.sl site V 2) (Mem.set site (.row V e sz 2 fun k => [v, w].getD k .undef) mem) := by
  refine .inr ⟨V, _, rfl, set_same _ _ _, fun i hi => ?_⟩
  have : i = 0 ∨ i = 1 := by omega
  rcases this with h | h <;> subst h
  · exact hv
  · exact hw
theorem Acc.push2 {site e sz V i : Nat} {p : Nat → AV → Prop} {v w : AV} {g : Nat → AV} (hg : ∀ k, k < i → p k (g k)) (hv : p i v) (hw : p (i + 1) w) : Acc site e sz (i + 2) p (.sl site V (i + 2)) (Mem.set site (.row V e sz (i + 2) fun k => bif decide (k < i) then g k else [v, w].getD (k - i) .undef) mem) := by
  refine .inr ⟨V, _, rfl, set_same _ _ _, fun k hk => ?_⟩
  by_cases h : k < i
  · simp only [h, decide_true, cond_true]; exact hg k h
  · have : k = i ∨ k = i + 1 := by omega
    rcases this with h | h <;> subst h
    · simp only [Nat.lt_irrefl, decide_false, cond_false, Nat.sub_self, List.getD_cons_zero]; exact hv
    · simp only [show ¬ i + 1 < i by omega, decide_false, cond_false, show i + 1 - i = 1 by omega, List.getD_cons_succ, List.getD_cons_zero]; exact hw
theorem Acc.le {site e sz n n' : Nat} {p : Nat → AV → Prop} {v : AV} (h : Acc site e sz n p v mem) (e' : n = n') : Acc site e sz n' p v mem := e' ▸ h
theorem Acc.setNe {site site' e sz n : Nat} {p : Nat → AV → Prop} {v : AV} {o : AO} (h : Acc site e sz n p v mem) (hne : site ≠ site') : Acc site e sz n p v (Mem.set site' o mem) := by
  rcases h with h | ⟨ver, g, h1, h2, h3⟩
  · exact .inl h
  · exact .inr ⟨ver, g, h1, by rw [set_ne hne]; exact h2, h3⟩

theorem wI {n : Int} (h1 : -9223372036854775808 ≤ n) (h2 : n ≤ 9223372036854775807) : IntKind.i64.wrap n = n := IntWalk.i64_in n ⟨h1, h2⟩
theorem wU {n : Int} (h1 : 0 ≤ n) (h2 : n ≤ 18446744073709551615) : IntKind.u64.wrap n = n := IntWalk.u64_in n ⟨h1, h2⟩

end

/-! ### ways that join: what holds in front of the rest -/
section
variable {P : Program} {Q : AX → Env → Mem → Prop} {K K' : Env → Mem → Prop} {env e : Env} {mem m : Mem} {d : Option Nat}
def joinK (G : Env → Mem → Prop) (Q : AX → Env → Mem → Prop) : AX → Env → Mem → Prop := fun x e m => match x with | .normal => G e m | x => Q x e m
theorem joinN {G : Env → Mem → Prop} : joinK G Q .normal e m = G e m := rfl
theorem joinR {G : Env → Mem → Prop} : joinK G Q .ret e m = Q .ret e m := rfl
theorem joinE {G : Env → Mem → Prop} {j : Nat} : joinK G Q (.exit j) e m = Q (.exit j) e m := rfl
theorem awpL_mono : ∀ (l : List AOp) {env : Env} {mem : Mem}, awpL P K l env mem → (∀ e m, K e m → K' e m) → awpL P K' l env mem
  | [], _, _, h, hk => hk _ _ h
  | o :: l, _, _, h, hk => AOp.wp_mono h fun e m hh => awpL_mono l hh hk
theorem seq_join {a b : AC} (G : Env → Mem → Prop) (h1 : awp P a (joinK G Q) env mem) (h2 : ∀ e m, G e m → awp P b Q e m) : awp P a (seqK P b Q) env mem :=
  awp_mono a h1 fun x e m hx => by cases x with
    | normal => exact h2 e m hx
    | ret => exact hx
    | exit j => exact hx
theorem call_join {X b : AC} {l : List AOp} {v : AV} (G : Env → Mem → Prop) (h1 : callK P d (seqK P X (joinK G Q) .normal) l env v mem) (h2 : ∀ e m, G e m → awp P b Q e m) : callK P d (seqK P X (seqK P b Q) .normal) l env v mem :=
  awpL_mono l h1 fun e m h => seq_join G h h2
end

/-! The rules of the walks, in bundles. -/
def vq0 := And.intro @vSkip (And.intro @vRet (And.intro @vExit (And.intro @vOps (And.intro @vSeq (And.intro @vBlock (And.intro @vCond (And.intro @seqN (And.intro @seqR (And.intro @seqE (And.intro @blockN (And.intro @blockR (And.intro @blockE (And.intro @loopN (And.intro @loopR (And.intro @loopE (And.intro @forN (And.intro @forR (And.intro @forE (And.intro @cndT (And.intro @cndF (And.intro @cndD (And.intro @lNil (And.intro @lCons (@lGrd))))))))))))))))))))))))
def vq1 := And.intro @grdTT (And.intro @grdFF (And.intro @grdTF (And.intro @grdFT (And.intro @gTD (And.intro @gFD (And.intro @aV (And.intro @aE (And.intro @aC (And.intro @vS (And.intro @eS (And.intro @cS (And.intro @callK_at (And.intro @putS (And.intro @putN (And.intro @put_at (And.intro @set_at (And.intro @evT (And.intro @evC (And.intro @ieq (And.intro @ine (And.intro @ndec (And.intro @ver_row (And.intro @beqD (@bleD))))))))))))))))))))))))
def vq2 := And.intro @all1 (And.intro @all2 (And.intro @bltD (And.intro @cells_undef (And.intro @okv_undef (And.intro @isCell_undef (And.intro @isFz0_undef (And.intro @wk0_undef (And.intro @wk1_undef (And.intro @wk_undef (And.intro @frz0_undef (And.intro @frzA_undef (And.intro @cells_int (And.intro @okv_int (And.intro @isCell_int (And.intro @isFz0_int (And.intro @wk0_int (And.intro @wk1_int (And.intro @wk_int (And.intro @frz0_int (And.intro @frzA_int (And.intro @cells_bool (And.intro @okv_bool (And.intro @isCell_bool (@isFz0_bool))))))))))))))))))))))))
def vq3 := And.intro @wk0_bool (And.intro @wk1_bool (And.intro @wk_bool (And.intro @frz0_bool (And.intro @frzA_bool (And.intro @cells_str (And.intro @okv_str (And.intro @isCell_str (And.intro @isFz0_str (And.intro @wk0_str (And.intro @wk1_str (And.intro @wk_str (And.intro @frz0_str (And.intro @frzA_str (And.intro @cells_nilp (And.intro @okv_nilp (And.intro @isCell_nilp (And.intro @isFz0_nilp (And.intro @wk0_nilp (And.intro @wk1_nilp (And.intro @wk_nilp (And.intro @frz0_nilp (And.intro @frzA_nilp (And.intro @cells_nilf (@okv_nilf))))))))))))))))))))))))
def vq4 := And.intro @isCell_nilf (And.intro @isFz0_nilf (And.intro @wk0_nilf (And.intro @wk1_nilf (And.intro @wk_nilf (And.intro @frz0_nilf (And.intro @frzA_nilf (And.intro @cells_cap0 (And.intro @okv_cap0 (And.intro @isCell_cap0 (And.intro @isFz0_cap0 (And.intro @wk0_cap0 (And.intro @wk1_cap0 (And.intro @wk_cap0 (And.intro @frz0_cap0 (And.intro @frzA_cap0 (And.intro @cells_fs (And.intro @okv_fs (And.intro @isCell_fs (And.intro @isFz0_fs (And.intro @wk0_fs (And.intro @wk1_fs (And.intro @wk_fs (And.intro @frz0_fs (@frzA_fs))))))))))))))))))))))))
def vq5 := And.intro @cells_sl (And.intro @okv_sl (And.intro @isCell_sl (And.intro @isFz0_sl (And.intro @wk0_sl (And.intro @wk1_sl (And.intro @wk_sl (And.intro @frz0_sl (And.intro @frzA_sl (And.intro @cells_fp (And.intro @okv_fp (And.intro @isCell_fp (And.intro @isFz0_fp (And.intro @wk0_fp (And.intro @wk1_fp (And.intro @wk_fp (And.intro @frz0_fp (And.intro @frzA_fp (And.intro @cells_ptr (And.intro @okv_ptr (And.intro @isCell_ptr (And.intro @isFz0_ptr (And.intro @wk0_ptr (And.intro @wk1_ptr (@wk_ptr))))))))))))))))))))))))
def vq6 := And.intro @frz0_ptr (And.intro @frzA_ptr (And.intro @cells_rp (And.intro @okv_rp (And.intro @isCell_rp (And.intro @isFz0_rp (And.intro @wk0_rp (And.intro @wk1_rp (And.intro @wk_rp (And.intro @frz0_rp (And.intro @frzA_rp (And.intro @cells_mp (And.intro @okv_mp (And.intro @isCell_mp (And.intro @isFz0_mp (And.intro @wk0_mp (And.intro @wk1_mp (And.intro @wk_mp (And.intro @frz0_mp (And.intro @frzA_mp (And.intro @cells_agg (And.intro @okv_agg (And.intro @isCell_agg (And.intro @isFz0_agg (@wk0_agg))))))))))))))))))))))))
def vq7 := And.intro @wk1_agg (And.intro @wk_agg (And.intro @frz0_agg (And.intro @cells_tup (And.intro @okv_tup (And.intro @isCell_tup (And.intro @isFz0_tup (And.intro @wk0_tup (And.intro @wk1_tup (And.intro @wk_tup (And.intro @frz0_tup (And.intro @frzA_tup (And.intro @cells_fn (And.intro @okv_fn (And.intro @isCell_fn (And.intro @isFz0_fn (And.intro @wk0_fn (And.intro @wk1_fn (And.intro @wk_fn (And.intro @frz0_fn (And.intro @frzA_agg (And.intro @frzA_fn (And.intro @endN (And.intro @endR (@endE))))))))))))))))))))))))
def vq8 := And.intro @ver_dead (And.intro @ver_var (And.intro @restr_all (And.intro @agree_all (And.intro @sNil (And.intro @sCons (And.intro @sOV (And.intro @sVS (And.intro @sOC (And.intro @sCS (And.intro @schK_at (And.intro @sOE (And.intro @sES (And.intro @aN (And.intro @aB (And.intro @nFs (And.intro @nCap0 (And.intro @nSl (And.intro @elA_some (And.intro @elA_none (And.intro @seq (And.intro @keyEq_str (And.intro @keyEq_int (And.intro @restr_one (@agree_one))))))))))))))))))))))))
def vq9 := And.intro @bEq (And.intro @bEq0 (And.intro @bEq1 (And.intro @sOG (And.intro @sGTT (And.intro @sGFF (And.intro @sGTF (And.intro @sGFT (And.intro @sSV (And.intro @sSE (And.intro @sSC (And.intro @sGTD (And.intro @sGFD (And.intro @keeps_refl (And.intro @keeps_set (And.intro @keeps_set0 (And.intro @grdN (@sGN)))))))))))))))))
def vqj := And.intro @joinN (And.intro @joinR @joinE)
def vqc := And.intro @Bool.and_true (And.intro @Bool.true_and (And.intro @true_and (And.intro @and_true (And.intro @Nat.zero_add (And.intro @Nat.add_zero (And.intro @Int.toNat_natCast (And.intro @and_self (And.intro @Nat.succ_eq_add_one (And.intro @Nat.not_lt_zero (And.intro @not_true_eq_false (And.intro @not_false_eq_true (And.intro @Int.lt_irrefl (And.intro @Bool.false_eq_true (And.intro @Nat.zero_lt_succ (And.intro @Nat.le_refl (And.intro @Nat.lt_irrefl (And.intro @Bool.and_false (And.intro @Bool.false_and (And.intro @false_and (And.intro @and_false (And.intro @not_true (And.intro @true_implies (And.intro @false_implies (And.intro @Bool.not_true (And.intro @Bool.not_false (And.intro @AV.int.injEq (And.intro @AV.bool.injEq (And.intro @AV.str.injEq (@Int.zero_add)))))))))))))))))))))))))))))
end Go.Ab
