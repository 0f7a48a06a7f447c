/- Operations, calls and code over abstract states. -/
import Derived.Test.YtiecnmojbdogfaaFwY
import Derived.Orders
set_option linter.unusedSimpArgs false
set_option linter.unusedVariables false
namespace Go.Ab
open Go

inductive SI where
  | v (i : AI)
  | e (i : EI)
  | call (f : Opd) (args : List Opd)
  | isnil (ng : Bool) (x : Opd)
  | next (x : Opd)
  | bad

structure AOp where
  dst : Option Nat
  guard : Option (Nat × Bool)
  si : SI

def putO (d : Option Nat) (v : AV) (env : Env) : Env :=
  match d with
  | some d => Env.put d v env
  | none => env

def Enterable (P : Program) (g : Nat) : Prop := ∃ fn c, P.funcs[g]? = some fn ∧ (fn.name == "runtime.NumGoroutine") = false ∧ fn.body = some c

/-- A call, from whatever world that stands for 'mem' and whatever values that stand for 'args': it returns, and what it leaves stands for what K tells. -/
def CallW (P : Program) (g : Nat) (args : List AV) (mem : Mem) (K : AV → Mem → Prop) : Prop :=
  Enterable P g ∧ ∀ (X Y : Nat → Prop) (w0 w : World) (bl : Nat → Loc) (vs : Array Value), WS X Y w0 w bl mem → vs.size = args.length → (∀ j, j < args.length → VV w (Fr X w bl mem) bl mem (vs.getD j undef) (args.getD j .undef)) →
    Calls P g vs w fun e w' => ∃ u r mem' bl', e = .returned u ∧ K r mem' ∧ WS X Y w0 w' bl' mem' ∧ VV w' (Fr X w' bl' mem') bl' mem' u r ∧ (∀ b, Fr X w bl mem b → Fr X w' bl' mem' b ∧ w'.heap[b]? = w.heap[b]?) ∧ Later mem mem' bl bl'

theorem CallW.mono {P : Program} {g : Nat} {args : List AV} {mem : Mem} {K K' : AV → Mem → Prop} (h : CallW P g args mem K) (hk : ∀ r m, K r m → K' r m) : CallW P g args mem K' :=
  ⟨h.1, fun X Y w0 w bl vs h1 h2 h3 => (h.2 X Y w0 w bl vs h1 h2 h3).mono fun e w' ⟨u, r, m, b, e1, e2, e3⟩ => ⟨u, r, m, b, e1, hk _ _ e2, e3⟩⟩

def AOp.act (P : Program) (o : AOp) (env : Env) (mem : Mem) (K : Env → Mem → Prop) : Prop :=
  match o.si with
  | .v i => match i.val env mem with
    | some (c, v) => c ∧ K (putO o.dst v env) mem
    | none => False
  | .e i => match i.run env mem with
    | some (c, v, mem') => c ∧ K (putO o.dst v env) mem'
    | none => False
  | .call f args => match f.ev env with
    | .fn g caps => CallW P g (args.map (Opd.ev env) ++ caps) mem fun v mem' => K (putO o.dst v env) mem'
    | _ => False
  | .isnil ng x => match x.ev env with
    | .fs n _ => ∀ b : Bool, (0 < n → b = ng) → K (putO o.dst (.bool b) env) mem
    | .cap0 => K (putO o.dst (.bool (!ng)) env) mem
    | .sl id ver n => match mem id with
      | .row ver' _ _ _ _ => ver = ver' ∧ ∀ b : Bool, (0 < n → b = ng) → K (putO o.dst (.bool b) env) mem
      | _ => False
    | _ => False
  | .next x => match x.ev env with
    | .it id ver => match mem id with
      | .iter ver' d k p g _ => ver = ver' ∧ ((∀ key, p key = false) → K (putO o.dst (.tup [.bool false]) env) mem) ∧
          ∀ key, p key = true → K (putO o.dst (.tup [.bool true, .undef, .undef]) env) (Mem.set id (.iter ver' d k (fun q => bif keyEq q key then false else p q) g (some key)) mem)
      | _ => False
    | _ => False
  | .bad => False

def AOp.wp (P : Program) (o : AOp) (env : Env) (mem : Mem) (K : Env → Mem → Prop) : Prop :=
  match o.guard with
  | none => o.act P env mem K
  | some (d, want) => match env d with
    | .bool b => match b, want with
      | true, true => o.act P env mem K
      | false, false => o.act P env mem K
      | _, _ => K (putO o.dst (.tup []) env) mem
    | .tup [] => K (putO o.dst (.tup []) env) mem
    | _ => False

theorem AOp.act_mono {P : Program} {o : AOp} {env : Env} {mem : Mem} {K K' : Env → Mem → Prop} (h : o.act P env mem K) (hk : ∀ e m, K e m → K' e m) : o.act P env mem K' := by
  unfold AOp.act at *
  split at h
  · split at h
    · exact ⟨h.1, hk _ _ h.2⟩
    · exact h
  · split at h
    · exact ⟨h.1, hk _ _ h.2⟩
    · exact h
  · split at h
    · exact h.mono fun r m => hk _ _
    · exact h
  · split at h
    · exact fun b hb => hk _ _ (h b hb)
    · exact hk _ _ h
    · split at h
      · exact ⟨h.1, fun b hb => hk _ _ (h.2 b hb)⟩
      · exact h
    · exact h
  · split at h
    · split at h
      · exact ⟨h.1, fun q => hk _ _ (h.2.1 q), fun key q => hk _ _ (h.2.2 key q)⟩
      · exact h
    · exact h
  · exact h

theorem AOp.wp_mono {P : Program} {o : AOp} {env : Env} {mem : Mem} {K K' : Env → Mem → Prop} (h : o.wp P env mem K) (hk : ∀ e m, K e m → K' e m) : o.wp P env mem K' := by
  unfold AOp.wp at *
  split at h
  · exact AOp.act_mono h hk
  · split at h
    · split at h
      · exact AOp.act_mono h hk
      · exact AOp.act_mono h hk
      · exact hk _ _ h
    · exact hk _ _ h
    · exact h

/-! ### From an operation -/
def compSI (P : Program) (site : Nat) (op : Op) : Option SI :=
  match compVX P op with
  | some i => some (.v i)
  | none => match compEX P site op with
    | some i => some (.e i)
    | none => match op with
      | .call c => match c.callee with
        | .value f => some (.call (Opd.of f) (c.args.toList.map Opd.of))
        | _ => some .bad
      | .binOp op t x (.const (.slice none 0 0)) _ => match P.underlying t with
        | some (.slice _) => match op with
          | .eql => some (.isnil false (Opd.of x))
          | .neq => some (.isnil true (Opd.of x))
          | _ => some .bad
        | _ => some .bad
      | .next x false => some (.next (Opd.of x))
      | _ => some .bad

def dstOk (N : Nat) : Option Nat → Bool
  | none => true
  | some d => Nat.blt d N

def compO (P : Program) (B N : Nat) (ops : Array Oper) (o : Oper) : Option AOp :=
  bif dstOk N o.dst then
    match compSI P (B + o.dst.getD 0) o.op with
    | some si => match o.guard with
      | none => some ⟨o.dst, none, si⟩
      | some (j, want) => match (ops[j]?).bind (·.dst) with
        | some d => some ⟨o.dst, some (d, want), si⟩
        | none => none
    | none => none
  else none

def compL (P : Program) (B N : Nat) (ops : Array Oper) : List Oper → Option (List AOp)
  | [] => some []
  | o :: rest => match compO P B N ops o, compL P B N ops rest with
    | some a, some l => some (a :: l)
    | _, _ => none

section
variable {P : Program} {B N : Nat} {X Y : Nat → Prop} {w0 w1 w : World} {bl1 : Nat → Loc} {mem1 : Mem} {mem : Mem} {a : Act} {env : Env} {o : Oper}

theorem getD_put (a : Act) (d : Option Nat) (hd : dstOk a.tmps.size d = true) (u : Value) (k : Nat) : (a.put d u).tmps.getD k undef = if d = some k then u else a.tmps.getD k undef := by
  cases d with
  | none => simp [Act.put]
  | some d =>
    have hlt : d < a.tmps.size := by simpa [dstOk, Nat.blt_eq] using hd
    by_cases e : d = k
    · subst e; simp [Act.put, hlt]
    · simp [Act.put, Array.getElem?_setIfInBounds_ne e, e]

theorem putO_at (d : Option Nat) (v : AV) (env : Env) (k : Nat) : putO d v env k = if d = some k then v else env k := by
  cases d with
  | none => simp [putO]
  | some d =>
    by_cases e : d = k
    · subst e; simp [putO, Env.put]
    · simp [putO, Env.put, e, beq_false_of_ne (Ne.symm e)]

theorem ST.put {u : Value} {v : AV} {bl : Nat → Loc} {d : Option Nat} (h1 : a.defers = []) (h2 : a.tmps.size = N) (hd : dstOk N d = true) (hw : WS X Y w0 w bl mem) (hv : ∀ k, VV w (Fr X w bl mem) bl mem (a.tmps.getD k undef) (env k))
    (hu : VV w (Fr X w bl mem) bl mem u v) (hbF : ∀ b, Fr X w1 bl1 mem1 b → Fr X w bl mem b ∧ w.heap[b]? = w1.heap[b]?) (hbL : Later mem1 mem bl1 bl) : ST N X Y w0 w1 bl1 mem1 (a.put d u) w (putO d v env) mem := by
  refine ⟨by cases d <;> exact h1, by cases d <;> simp [Act.put, h2], bl, hw, fun k => ?_, hbF, hbL⟩
  rw [getD_put a d (by rw [h2]; exact hd), putO_at]
  by_cases e : d = some k
  · rw [if_pos e, if_pos e]; exact hu
  · rw [if_neg e, if_neg e]; exact hv k

theorem act_sound {ao : AOp} {K : Env → Mem → Prop} {next : Act → World → Prop} {Q : Exit → Act → World → Prop} {si : SI} (hsi : compSI P (B + o.dst.getD 0) o.op = some si) (hao : ao = ⟨o.dst, ao.guard, si⟩) (hd : dstOk N o.dst = true)
    (hst : ST N X Y w0 w1 bl1 mem1 a w env mem) (h : ao.act P env mem K) (hk : ∀ env' mem' a' w', K env' mem' → ST N X Y w0 w1 bl1 mem1 a' w' env' mem' → next a' w') : o.wp P a w next Q := by
  obtain ⟨h1, h2, bl, hw, hv, hbF, hbL⟩ := hst
  rw [hao] at h
  unfold AOp.act at h
  unfold compSI at hsi
  split at hsi
  · rename_i i hi
    cases hsi
    simp only at h
    split at h
    · rename_i c v hval
      obtain ⟨hc, hK⟩ := h
      obtain ⟨u, hr, hu⟩ := valXSound hi hw hv hval hc
      unfold Oper.wp
      rw [hr, Oper.upon_value]
      exact hk _ _ _ _ hK (ST.put h1 h2 hd hw hv hu hbF hbL)
    · exact h.elim
  · split at hsi
    · rename_i i hi
      cases hsi
      simp only at h
      split at h
      · rename_i c v mem' hval
        obtain ⟨hc, hK⟩ := h
        obtain ⟨u, w', bl', hr, hw', hu, hF, hlat⟩ := effXSound hi hw hv hval hc
        have hst' : ST N X Y w0 w1 bl1 mem1 (a.put o.dst u) w' (putO o.dst v env) mem' := ST.put h1 h2 hd hw' (fun k => (hv k).mono hF hlat) hu (fun b hb => ⟨(hF b (hbF b hb).1).1, ((hF b (hbF b hb).1).2).trans (hbF b hb).2⟩) (hbL.trans hlat)
        unfold Oper.wp
        rcases hr with hr | ⟨hr, hu'⟩
        · rw [hr, Oper.upon_value]
          exact hk _ _ _ _ hK hst'
        · rw [hr, Oper.upon_skip, ← hu']
          exact hk _ _ _ _ hK hst'
      · exact h.elim
    · split at hsi
      · rename_i c hop
        split at hsi <;> cases hsi
        rotate_left
        · exact h.elim
        rename_i f hcal
        simp only at h
        split at h
        · rename_i g caps hf
          have hfv := VV.opd hv f
          rw [hf] at hfv
          obtain ⟨cv, hfu, hcl, hcr⟩ := hfv.fn_inv
          obtain ⟨⟨fn, cb, hfn, hname, hbody⟩, hcall⟩ := h
          have hcalls := hcall X Y w0 w bl (c.args.map a.eval ++ cv) hw (by simp [hcl]) (fun j hj => by
            by_cases hj1 : j < c.args.size
            · have e1 : (c.args.map a.eval ++ cv).getD j undef = a.eval c.args[j] := by simp [Array.getElem?_append, hj1]
              have e2 : ((c.args.toList.map Opd.of).map (Opd.ev env) ++ caps).getD j .undef = (Opd.of c.args[j]).ev env := by
                simp [List.getD_eq_getElem?_getD, List.getElem?_append, hj1]
              rw [e1, e2]
              exact VV.opd hv _
            · have e1 : (c.args.map a.eval ++ cv).getD j undef = cv.getD (j - c.args.size) undef := by simp [Array.getElem?_append, hj1]
              have e2 : ((c.args.toList.map Opd.of).map (Opd.ev env) ++ caps).getD j .undef = caps.getD (j - c.args.size) .undef := by
                simp [List.getD_eq_getElem?_getD, List.getElem?_append, hj1]
              rw [e1, e2]
              exact hcr _ (by simp at hj; omega))
          have hrun : (execOp a.eval o).run P w = .ok (.enter g (c.args.map a.eval ++ cv)) w := by
            obtain ⟨callee, args, ats⟩ := c
            simp only at hcal
            subst hcal
            have hp : (Sem.program Sem.pure : Sem Program).run P w = .ok P w := rfl
            have hnm : ¬ fn.name = "runtime.NumGoroutine" := by simpa using hname
            simp [execOp, hop, resolve, hfu, Deferred.ofValue, invoke, callFunc, program, hp, hfn, hnm, hbody]
          unfold Oper.wp
          rw [hrun, Oper.upon_enter]
          refine hcalls.mono fun e w' ⟨u, r, m', bl', he, hK, hw', hu, hF, hlat⟩ => ?_
          subst he
          exact hk _ _ _ _ hK (ST.put h1 h2 hd hw' (fun k => (hv k).mono hF hlat) hu (fun b hb => ⟨(hF b (hbF b hb).1).1, ((hF b (hbF b hb).1).2).trans (hbF b hb).2⟩) (hbL.trans hlat))
        · exact h.elim
      · rename_i op t x yt hop
        split at hsi
        · rename_i e ht
          have hx := VV.opd hv x
          have key : ∀ (ng : Bool), (∀ ad n c, a.eval x = .slice ad n c → Yld P w (Fr X w bl mem) bl mem a o (.bool (bif ng then !ad.isNone else ad.isNone))) → (AOp.mk o.dst ao.guard (.isnil ng (Opd.of x))).act P env mem K → o.wp P a w next Q := fun ng hy h => by
            have fin : ∀ (ad : Option Addr) (n c : Nat), a.eval x = .slice ad n c → K (putO o.dst (.bool (bif ng then !ad.isNone else ad.isNone)) env) mem → o.wp P a w next Q := fun ad n c hu hK => by
              obtain ⟨u, hr, hu'⟩ := hy ad n c hu
              unfold Oper.wp
              rw [hr, Oper.upon_value]
              exact hk _ _ _ _ hK (ST.put h1 h2 hd hw hv hu' hbF hbL)
            unfold AOp.act at h
            simp only at h
            split at h
            · rename_i n f e1
              rw [e1] at hx
              have hxf := hx.fs_inv
              obtain ⟨u, hu⟩ : ∃ u, a.eval x = u := ⟨_, rfl⟩
              rw [hu] at hxf
              cases hxf with
              | fs0 ad c _ => exact fin ad 0 c hu (h _ (fun h0 => by omega))
              | fs ad _ c sz' _ val hb2 hcap hszp hlz hval hr => exact fin (some ad) n c hu (h _ (fun _ => by cases ng <;> rfl))
            · rename_i e1
              rw [e1] at hx
              have hu := hx.cap0_inv
              exact fin none 0 0 hu (by cases ng <;> exact h)
            · rename_i id ver n e1
              split at h
              · rename_i ver' e' sz' m f hm
                obtain ⟨rfl, h⟩ := h
                rw [e1] at hx
                obtain ⟨_, _, _, _, hinv⟩ := hx.sl_inv
                obtain ⟨hle, hu⟩ := hinv _ _ _ _ hm
                cases hloc : bl id with
                | none =>
                  have hob := hw.obj id
                  rw [hm, hloc] at hob
                  obtain ⟨hz, xs, hown, hr⟩ := hob
                  have hn0 : m = 0 := by
                    rcases hown.2 with ⟨_, g⟩ | ⟨_, _, _, hv', _⟩
                    · exact g
                    · simp [slv] at hv'
                  rw [hloc] at hu
                  exact fin none 0 0 hu (h _ (fun h0 => by omega))
                | blk b c =>
                  rw [hloc] at hu
                  exact fin (some ⟨b, 0, none⟩) n c hu (h _ (fun _ => by cases ng <;> rfl))
              · exact h.elim
            · exact h.elim
          split at hsi <;> cases hsi
          · exact key false (fun ad n c hu => nilEql hop ht hu) h
          · exact key true (fun ad n c hu => nilNeq hop ht hu) h
          · exact h.elim
        · cases hsi
          exact h.elim
      · rename_i x hop
        cases hsi
        simp only at h
        split at h
        · rename_i id ver e1
          split at h
          · rename_i ver' d k p g cur hm
            obtain ⟨rfl, hend, hgo⟩ := h
            have hx := VV.opd hv x
            rw [e1] at hx
            rcases next_sound (P := P) hw hm hx o.type with ⟨hno, hrun⟩ | ⟨key, w', hp, hrun, hw', hF, hlat⟩
            · have hrun' : (execOp a.eval o).run P w = .ok (.value (.tuple #[.bool false])) w := by simp [execOp, hop, hrun]
              unfold Oper.wp
              rw [hrun', Oper.upon_value]
              exact hk _ _ _ _ (hend hno) (ST.put h1 h2 hd hw hv (.fz (.tup _ _ rfl fun j hj => by
                obtain rfl : j = 0 := by simpa using hj
                exact .bool _)) hbF hbL)
            · obtain ⟨kv, hrun⟩ := hrun
              have hrun' : (execOp a.eval o).run P w = .ok (.value (.tuple #[.bool true, key, kv])) w' := by simp [execOp, hop, hrun]
              unfold Oper.wp
              rw [hrun', Oper.upon_value]
              refine hk _ _ _ _ (hgo key hp) (ST.put h1 h2 hd hw' (fun k => (hv k).mono hF hlat) (.fz (.tup _ _ rfl fun j hj => ?_)) (fun b hb => ⟨(hF b (hbF b hb).1).1, ((hF b (hbF b hb).1).2).trans (hbF b hb).2⟩) (hbL.trans hlat))
              have hj3 : j < 3 := hj
              rcases j with _ | _ | _ | j
              · exact .bool _
              · exact .undef _
              · exact .undef _
              · omega
          · exact h.elim
        · exact h.elim
      · cases hsi
        exact h.elim

theorem yielded_bool {ops : Array Oper} {j d : Nat} {b : Bool} (hj : (ops[j]?).bind (·.dst) = some d) (hb : a.tmps.getD d undef = .bool b) : yielded ops a.tmps j = some b := by
  unfold yielded
  rw [hj]
  simp only [Option.bind_some]
  have : a.tmps[d]? = some (.bool b) := by
    cases h : a.tmps[d]? with
    | none => simp [h] at hb; cases hb
    | some v => simp [h] at hb; rw [hb]
  rw [this]

/-- One operation of a region. -/
theorem aop_sound {ops : Array Oper} {ao : AOp} {K : Env → Mem → Prop} {next : Act → World → Prop} {Q : Exit → Act → World → Prop} (hc : compO P B N ops o = some ao)
    (hst : ST N X Y w0 w1 bl1 mem1 a w env mem) (h : ao.wp P env mem K) (hk : ∀ env' mem' a' w', K env' mem' → ST N X Y w0 w1 bl1 mem1 a' w' env' mem' → next a' w') :
    if Region.wanted o (yielded ops a.tmps) then o.wp P a w next Q ∨ (o.asks P a w ∧ LetsOut Q) else next (a.put o.dst undef) w := by
  unfold compO at hc
  cases hd : dstOk N o.dst with
  | false => rw [hd] at hc; cases hc
  | true =>
    rw [hd] at hc
    simp only [cond_true] at hc
    split at hc
    · rename_i si hsi
      split at hc
      · rename_i hg
        cases hc
        have hw : Region.wanted o (yielded ops a.tmps) = true := by simp [Region.wanted, hg]
        rw [if_pos hw]
        exact .inl (act_sound hsi rfl hd hst h hk)
      · rename_i j want hg
        split at hc <;> cases hc
        rename_i d hj
        unfold AOp.wp at h
        simp only at h
        have hskip : ∀ b, a.tmps.getD d undef = .bool b → b ≠ want → K (putO o.dst (.tup []) env) mem → (if Region.wanted o (yielded ops a.tmps) then o.wp P a w next Q ∨ (o.asks P a w ∧ LetsOut Q) else next (a.put o.dst undef) w) := fun b hb hne hK => by
          have hw : ¬ Region.wanted o (yielded ops a.tmps) = true := by simp [Region.wanted, hg, yielded_bool hj hb, hne]
          rw [if_neg hw]
          obtain ⟨h1, h2, bl, hws, hv, hbF, hbL⟩ := hst
          exact hk _ _ _ _ hK (ST.put h1 h2 hd hws hv (.fz (.tup #[] [] rfl (fun j hj => by simp at hj))) hbF hbL)
        have hrun : ∀ b, a.tmps.getD d undef = .bool b → b = want → (AOp.mk o.dst (some (d, want)) si).act P env mem K → (if Region.wanted o (yielded ops a.tmps) then o.wp P a w next Q ∨ (o.asks P a w ∧ LetsOut Q) else next (a.put o.dst undef) w) := fun b hb he hact => by
          have hw : Region.wanted o (yielded ops a.tmps) = true := by simp [Region.wanted, hg, yielded_bool hj hb, he]
          rw [if_pos hw]
          exact .inl (act_sound hsi rfl hd hst hact hk)
        split at h
        · rename_i b hb
          have hbv : a.tmps.getD d undef = .bool b := by
            obtain ⟨h1, h2, bl, hws, hv, hbF, hbL⟩ := hst
            have := hv d
            rw [hb] at this
            exact this.bool_inv
          cases b <;> cases want
          · exact hrun false hbv rfl h
          · exact hskip false hbv (by simp) h
          · exact hskip true hbv (by simp) h
          · exact hrun true hbv rfl h
        · rename_i hb
          obtain ⟨h1, h2, bl, hws, hv, hbF, hbL⟩ := hst
          have hd0 := hv d
          rw [hb] at hd0
          obtain ⟨vs, hvs, hl0, _⟩ := hd0.tup_inv
          have hw : ¬ Region.wanted o (yielded ops a.tmps) = true := by
            have hy : yielded ops a.tmps j = none := by
              unfold yielded
              rw [hj]
              simp only [Option.bind_some]
              cases h : a.tmps[d]? with
              | none => rfl
              | some v => simp [h] at hvs; rw [hvs]
            simp [Region.wanted, hg, hy]
          rw [if_neg hw]
          exact hk _ _ _ _ h (ST.put h1 h2 hd hws hv (.fz (.tup #[] [] rfl (fun j hj => by simp at hj))) hbF hbL)
        · exact h.elim
    · cases hc

/-- A list of operations, one behind the other. -/
def awpL (P : Program) (K : Env → Mem → Prop) : List AOp → Env → Mem → Prop
  | [], env, mem => K env mem
  | o :: rest, env, mem => o.wp P env mem (awpL P K rest)

theorem awpL_sound {ops : Array Oper} {K : Env → Mem → Prop} {Q : Exit → Act → World → Prop} (hk : ∀ env' mem' a' w', K env' mem' → ST N X Y w0 w1 bl1 mem1 a' w' env' mem' → Q .normal a' w') :
    ∀ (l : List Oper) (al : List AOp) (env : Env) (mem : Mem) (a : Act) (w : World), compL P B N ops l = some al → ST N X Y w0 w1 bl1 mem1 a w env mem → awpL P K al env mem → wpList P ops Q l a w
  | [], al, env, mem, a, w, hc, hst, h => by
    simp only [compL, Option.some.injEq] at hc
    subst hc
    exact hk _ _ _ _ h hst
  | o :: rest, al, env, mem, a, w, hc, hst, h => by
    simp only [compL] at hc
    split at hc <;> cases hc
    rename_i ao l' h1 h2
    simp only [awpL] at h
    simp only [wpList]
    exact aop_sound h1 hst h fun env' mem' a' w' hK hst' => awpL_sound hk rest l' env' mem' a' w' h2 hst' hK

end
end Go.Ab
