/- Functions: from the body to a contract, from a contract to a call. -/
import Derived.Test.YtiecnmojbdogfaaFwM
set_option linter.unusedSimpArgs false
set_option linter.unusedVariables false
namespace Go.Ab
open Go

def compR (P : Program) : ResultVar → Option AI
  | .tmp t => some (.mv (.t t))
  | .cell t ty => match P.underlying ty, tsize P ty with
    | some _, some n => some (.load n (aggT P ty) (.t t))
    | _, _ => none
def compRL (P : Program) : List ResultVar → Option (List AI)
  | [] => some []
  | r :: rest => match compR P r, compRL P rest with
    | some i, some l => some (i :: l)
    | _, _ => none
def retL (env : Env) (mem : Mem) : List AI → Option (Prop × List AV)
  | [] => some (True, [])
  | i :: rest => match i.val env mem, retL env mem rest with
    | some (c, v), some (d, vs) => some (c ∧ d, v :: vs)
    | _, _ => none
def retV : List AV → AV
  | [v] => v
  | vs => .tup vs
def env0 (args : List AV) : Env := fun k => args.getD k .undef

def resOf (tmps : Array Value) (r : ResultVar) : Sem Value :=
  match r with
  | .tmp t => pure (tmps.getD t undef)
  | .cell a t => do loadVar t (← asAddr (tmps.getD a undef))

theorem results_eq (fn : Func) (tmps : Array Value) : results fn tmps = (do let vs ← fn.results.mapM (resOf tmps); pure (if h : vs.size = 1 then vs[0] else .tuple vs)) := rfl

section
variable {P : Program} {X Y : Nat → Prop} {w0 w : World} {bl : Nat → Loc} {mem : Mem} {a : Act} {env : Env}

theorem retL_sound (hw : WS X Y w0 w bl mem) (hv : ∀ k, VV w (Fr X w bl mem) bl mem (a.tmps.getD k undef) (env k)) : ∀ (rs : List ResultVar) (rl : List AI) (c : Prop) (vs : List AV), compRL P rs = some rl → retL env mem rl = some (c, vs) → c →
    ∃ us : List Value, (rs.mapM (resOf a.tmps)).run P w = .ok us w ∧ us.length = vs.length ∧ ∀ j, j < vs.length → VV w (Fr X w bl mem) bl mem (us.getD j undef) (vs.getD j .undef)
  | [], rl, c, vs, h1, h2, hc => by
    simp only [compRL, Option.some.injEq] at h1
    subst h1
    simp only [retL, Option.some.injEq, Prod.mk.injEq] at h2
    obtain ⟨_, rfl⟩ := h2
    exact ⟨[], by simp, rfl, fun j hj => by simp at hj⟩
  | r :: rest, rl, c, vs, h1, h2, hc => by
    simp only [compRL] at h1
    split at h1 <;> cases h1
    rename_i i l hi hl
    simp only [retL] at h2
    split at h2 <;> cases h2
    rename_i c1 v d vs' hval hrest
    obtain ⟨hc1, hd⟩ := hc
    obtain ⟨us, g1, g2, g3⟩ := retL_sound hw hv rest l d vs' hl hrest hd
    have one : ∃ u, (resOf a.tmps r).run P w = .ok u w ∧ VV w (Fr X w bl mem) bl mem u v := by
      cases r with
      | tmp t => cases hi; cases hval; exact ⟨_, rfl, hv t⟩
      | cell b ty =>
        simp only [compR] at hi
        split at hi <;> cases hi
        rename_i dsc n hu hn
        have hy : Yld P w (Fr X w bl mem) bl mem a { dst := none, op := .load ty (.tmp b), type := 0, pos := "", after := #[], guard := none } v := by
          refine valSound (o := { dst := none, op := .load ty (.tmp b), type := 0, pos := "", after := #[], guard := none }) (i := .load n (aggT P ty) (.t b)) (by simp only [compV, hu, hn]; rfl) hw hv hval hc1
        obtain ⟨u, hr, hvv⟩ := hy
        have hb : ∃ ad, a.tmps.getD b undef = .pointer (some ad) := by
          simp only [AI.val] at hval
          have hx := hv b
          have key := read_sound hw hx
          split at hval
          · rename_i id ver ofs e1
            split at hval
            · rename_i ver' cs hm
              obtain ⟨v', hp, hh⟩ := Option.map_eq_some_iff.1 hval
              cases hh
              subst hc1
              obtain ⟨ad, _, e, _⟩ := key.1 id ver ofs cs e1 hm
              exact ⟨ad, e⟩
            · cases hval
          · rename_i id ver j ofs e1
            split at hval
            · rename_i ver' e sz m f hm
              obtain ⟨v', hp, hh⟩ := Option.map_eq_some_iff.1 hval
              cases hh
              obtain ⟨h0, h⟩ := hc1
              subst h0
              obtain ⟨ad, _, e, _⟩ := key.2.1 id ver j ofs _ sz m f e1 hm h
              exact ⟨ad, e⟩
            · cases hval
          · rename_i cs e1
            obtain ⟨ad, _, e, _⟩ := key.2.2 cs e1
            exact ⟨ad, e⟩
          · simp only [loadV] at hval
            split at hval
            · rename_i id ver j ofs e1
              split at hval
              · rename_i ver' e sz m f hm
                obtain ⟨v', hp, hh⟩ := Option.map_eq_some_iff.1 hval
                cases hh
                obtain ⟨h0, h⟩ := hc1
                subst h0
                obtain ⟨ad, _, e, _⟩ := read_soundV hw hx id ver j ofs _ sz m f e1 hm h
                exact ⟨ad, e⟩
              · cases hval
            · cases hval
        obtain ⟨ad, had⟩ := hb
        refine ⟨u, ?_, hvv⟩
        have hrun : (loadVar ty ad).run P w = .ok u w := by
          have : a.eval (.tmp b) = .pointer (some ad) := had
          simp only [execOp, Sem.run_bind, this, Instr.loadAt, Instr.sureAddr, Sem.run_pure, Result.andThen_ok] at hr
          cases hl : (loadVar ty ad).run P w with
          | ok u' w' => rw [hl] at hr; simp at hr; obtain ⟨rfl, rfl⟩ := hr; rfl
          | halt h w' => rw [hl] at hr; simp at hr
        simp only [resOf, Sem.run_bind, had, asAddr, Sem.run_pure, Result.andThen_ok, hrun]
    obtain ⟨u, hu, hvv⟩ := one
    refine ⟨u :: us, ?_, by simp [g2], fun j hj => ?_⟩
    · rw [List.mapM_cons, Sem.run_bind, hu, Result.andThen_ok, Sem.run_bind, g1, Result.andThen_ok]
      rfl
    · cases j with
      | zero => simpa using hvv
      | succ j => simpa using g3 j (by simpa using hj)

theorem results_sound {fn : Func} (hw : WS X Y w0 w bl mem) (hv : ∀ k, VV w (Fr X w bl mem) bl mem (a.tmps.getD k undef) (env k)) {rl : List AI} {c : Prop} {vs : List AV} (h1 : compRL P fn.results.toList = some rl) (h2 : retL env mem rl = some (c, vs)) (hc : c) :
    ∃ u, (results fn a.tmps).run P w = .ok u w ∧ VV w (Fr X w bl mem) bl mem u (retV vs) := by
  obtain ⟨us, g1, g2, g3⟩ := retL_sound hw hv _ rl c vs h1 h2 hc
  refine ⟨if h : us.toArray.size = 1 then us.toArray[0] else .tuple us.toArray, ?_, ?_⟩
  · rw [results_eq, Array.mapM_eq_mapM_toList]
    simp only [Sem.run_bind, Sem.run_map, g1, Result.andThen_ok, Sem.run_pure]
  · cases vs with
    | nil =>
      have : us = [] := List.eq_nil_of_length_eq_zero g2
      subst this
      exact .tup _ _ rfl (fun j hj => by simp at hj)
    | cons v rest =>
      cases rest with
      | nil =>
        obtain ⟨u, rfl⟩ : ∃ u, us = [u] := List.length_eq_one_iff.1 g2
        simpa [retV] using g3 0 (by simp)
      | cons v2 rest =>
        have hne : ¬ us.toArray.size = 1 := by simp [g2]
        rw [dif_neg hne]
        refine .tup _ _ (by simpa using g2) (fun j hj => ?_)
        have := g3 j hj
        simpa [List.getD_eq_getElem?_getD] using this

/-- What a function's body must come to. -/
def Ret (rl : List AI) (K : AV → Mem → Prop) : AX → Env → Mem → Prop
  | .exit _, _, _ => False
  | _, env, mem => match retL env mem rl with
    | some (c, vs) => c ∧ K (retV vs) mem
    | none => False

/-- A function's body, loaded: what the code is, over abstract states. -/
structure Fn (P : Program) (f : Nat) (n : Nat) (ac : AC) (rl : List AI) : Prop where
  ok : ∃ fn c B, P.funcs[f]? = some fn ∧ (fn.name == "runtime.NumGoroutine") = false ∧ fn.body = some c ∧ n ≤ fn.ntmps ∧ compC P B fn.ntmps c = some ac ∧ compRL P fn.results.toList = some rl

/-- **From a body to a call.** -/
theorem Fn.call (hm : P.follows .mixedOrders = true) {f : Nat} {ac : AC} {rl : List AI} {args : List AV} {K : AV → Mem → Prop} (hf : Fn P f args.length ac rl) (h : awp P ac (Ret rl K) (env0 args) mem) : CallW P f args mem K := by
  obtain ⟨fn, c, B, h1, h2, h3, h4, h5, h6⟩ := hf.ok
  refine ⟨⟨fn, c, h1, h2, h3⟩, fun X Y w0 w bl vs hw hs hv => ?_⟩
  refine calls_of_wp h1 h3 ?_
  have hst : ST fn.ntmps X Y w0 w bl mem { tmps := vs ++ Array.replicate (fn.ntmps - vs.size) undef, defers := [] } w (env0 args) mem := by
    refine ⟨rfl, by simp; omega, bl, hw, fun k => ?_, fun b hb => ⟨hb, rfl⟩, Later.refl _ _⟩
    by_cases hk : k < vs.size
    · have e1 : (vs ++ Array.replicate (fn.ntmps - vs.size) undef).getD k undef = vs.getD k undef := by simp [Array.getElem?_append, hk]
      rw [e1]
      exact hv k (by omega)
    · have e2 : env0 args k = .undef := by simp [env0, List.getD_eq_getElem?_getD, List.getElem?_eq_none (show args.length ≤ k by omega)]
      rw [e2]
      exact .fz (.undef _)
  refine awp_sound (X := X) (Y := Y) (w0 := w0) (w1 := w) (bl1 := bl) (mem1 := mem) hm c ac (Ret rl K) _ (env0 args) mem _ w h5 hst h (fun x env' mem' a' w' hq hst' => ?_)
  obtain ⟨g1, g2, bl', hw', hv', hF, hL⟩ := hst'
  have fin : ∀ x, (∃ c vs, retL env' mem' rl = some (c, vs) ∧ c ∧ K (retV vs) mem') → x = AX.normal ∨ x = AX.ret → bodyPost P fn (fun e w' => ∃ u r mem' bl', e = .returned u ∧ K r mem' ∧ WS X Y w0 w' bl' mem' ∧ VV w' (Fr X w' bl' mem') bl' mem' u r ∧ (∀ b, Fr X w bl mem b → Fr X w' bl' mem' b ∧ w'.heap[b]? = w.heap[b]?) ∧ Later mem mem' bl bl') x.to a' w' := fun x ⟨c, vs, e1, e2, e3⟩ hx => by
    obtain ⟨u, hr, hu⟩ := results_sound hw' hv' h6 e1 e2
    rcases hx with rfl | rfl
    · exact ⟨g1, u, hr, u, _, mem', bl', rfl, e3, hw', hu, hF, hL⟩
    · exact ⟨g1, u, hr, u, _, mem', bl', rfl, e3, hw', hu, hF, hL⟩
  have hq' : x ≠ .exit 0 → True := fun _ => trivial
  cases x with
  | exit id => exact hq.elim
  | normal =>
    refine fin .normal ?_ (.inl rfl)
    simp only [Ret] at hq
    split at hq
    · rename_i c vs e; exact ⟨c, vs, e, hq.1, hq.2⟩
    · exact hq.elim
  | ret =>
    refine fin .ret ?_ (.inr rfl)
    simp only [Ret] at hq
    split at hq
    · rename_i c vs e; exact ⟨c, vs, e, hq.1, hq.2⟩
    · exact hq.elim

end
end Go.Ab
