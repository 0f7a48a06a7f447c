/- The instructions that write, and those that make memory: stores, variables, literals, make, append. -/
import Derived.Test.YtodncnlnadgkhaaFwX
set_option linter.unusedSimpArgs false
set_option linter.unusedVariables false
namespace Go.Ab
open Go

def isFz0 : AV → Bool
  | .int _ _ | .bool _ | .str _ | .nilp | .nilf | .cap0 | .fs _ _ | .fp _ => true
  | _ => false

/-- A cell's value as data that is only read: a row of the call's own is let go for it. -/
def frz0 (mem : Mem) : AV → Option (Prop × AV × Mem)
  | .sl id ver n => match mem id with
    | .row ver' _ _ _ f => some (ver = ver', .fs n f, Mem.set id (.dead (ver' + 1)) mem)
    | _ => none
  | v => bif isFz0 v then some (True, v, mem) else none

def frzL : List AV → Mem → Option (Prop × List AV × Mem)
  | [], mem => some (True, [], mem)
  | c :: cs, mem => match frz0 mem c with
    | some (p, c', mem1) => match frzL cs mem1 with
      | some (q, r, m) => some (p ∧ q, c' :: r, m)
      | none => none
    | none => none

/-- The same for a value: a struct's cells one by one. -/
def frzV (v : AV) (mem : Mem) : Option (Prop × List AV × Mem) := bif v.okv then frzL v.cells mem else none

def mkElt : List AV → AV
  | [v] => v
  | cs => .agg cs

def newElt (sz o n : Nat) (vs old : List AV) : AV := bif Nat.beq n sz then mkElt vs else .agg (old.take o ++ vs ++ old.drop (o + n))

inductive EI where
  | store (n : Nat) (p v : Opd)
  | alloc (site : Nat) (z : List AV)
  | box (site n : Nat) (v : Opd)
  | lit (site e sz len : Nat) (z : List AV) (parts : List (Nat × Opd))
  | make (site e sz bytes : Nat) (z : List AV) (len cap : Opd)
  | app (site e sz bytes : Nat) (x y : Opd)
  | appz (site e sz bytes : Nat) (z : List AV) (x y : Opd)
  | mkmap (site : Nat) (d : MK) (k : Option IntKind)
  | mapup (d : MK) (k : Option IntKind) (x key v : Opd)
  | strb (x : Opd)
  | clr (z : List AV) (x : Opd)

def litA (env : Env) (sz : Nat) : List (Nat × Opd) → List AV → Mem → Option (Prop × List AV × Mem)
  | [], es, mem => some (True, es, mem)
  | (i, x) :: rest, es, mem => match frzV (x.ev env) mem with
    | some (p, cs, mem') => bif Nat.beq cs.length sz && Nat.blt i es.length then
        match litA env sz rest (es.set i (mkElt cs)) mem' with
        | some (q, es', m) => some (p ∧ q, es', m)
        | none => none
      else none
    | none => none

/-- What an append takes its elements from. -/
def appSrc (sz : Nat) (y : AV) (mem : Mem) : Option (Prop × Nat × (Nat → AV)) :=
  match y with
  | .fs m g => some (True, m, g)
  | .sl j ver m => match mem j with
    | .row ver' _ s _ g => bif Nat.beq s sz then some (ver = ver', m, g) else none
    | _ => none
  | .cap0 => some (True, 0, fun _ => .undef)
  | _ => none

/-- A map's element as a whole number. -/
def elN : Option IntKind → AV → Option Int
  | some k, .int k' n => bif kEq k k' then some n else none
  | none, .bool b => some (match b with | true => 1 | false => 0)
  | _, _ => none

/-- A store into a row whose elements may lead to own objects. -/
def storeV (mem : Mem) (n : Nat) (p v : AV) : Option (Prop × AV × Mem) :=
  match p with
  | .vp id ver i o => match mem id with
    | .vrow ver' e sz m f => bif v.okv && v.cells.all AV.isCell && Nat.beq v.cells.length n && Nat.ble (o + n) sz then
        some (ver = ver' ∧ i < m, .undef, Mem.set id (.vrow ver' e sz m (fun j => bif Nat.beq j i then newElt sz o n v.cells (f i).cells else f j)) mem) else none
    | _ => none
  | _ => none

def EI.run (env : Env) (mem : Mem) : EI → Option (Prop × AV × Mem)
  | .store n p v => match p.ev env with
    | .ptr id ver o => match mem id with
      | .var ver' cs => bif (v.ev env).okv && (v.ev env).cells.all AV.isCell && Nat.beq (v.ev env).cells.length n && Nat.ble (o + n) cs.length then
          some (ver = ver', .undef, Mem.set id (.var ver' (cs.take o ++ (v.ev env).cells ++ cs.drop (o + n))) mem) else none
      | _ => none
    | .rp id ver i o => match frzV (v.ev env) mem with
      | some (p1, vs, mem') => match mem' id with
          | .row ver' e sz m f => bif Nat.beq vs.length n && Nat.ble (o + n) sz then
              some (p1 ∧ ver = ver' ∧ i < m, .undef, Mem.set id (.row ver' e sz m (fun j => bif Nat.beq j i then newElt sz o n vs (f i).cells else f j)) mem') else none
          | _ => none
      | none => none
    | u => storeV mem n u (v.ev env)
  | .appz site e sz bytes z x y => match x.ev env, y.ev env with
    | .cap0, .int _ m => some (0 < m ∧ (bytes : Int) * m ≤ 140737488355328 ∧ m ≤ 9223372036854775807, .sl site ((mem site).ver + 1) m.toNat, Mem.set site (.row ((mem site).ver + 1) e sz m.toNat (fun _ => mkElt z)) mem)
    | _, _ => none
  | .mkmap site d k => some (True, .mp site ((mem site).ver + 1), Mem.set site (.map ((mem site).ver + 1) d k (fun _ => false) (fun _ => 0)) mem)
  | .mapup d k x key v => match x.ev env, keyV d (key.ev env), elN k (v.ev env) with
    | .mp id ver, some kv, some n => match mem id with
      | .map ver' d' k' p g => some (ver = ver' ∧ d' = d ∧ k' = k, .undef, Mem.set id (.map ver' d' k' (fun q => bif keyEq q kv then true else p q) (fun q => bif keyEq q kv then n else g q)) mem)
      | _ => none
    | _, _, _ => none
  | .strb x => match x.ev env with
    | .str s => some (True, .fs s.size (fun i => .int .u8 ((s.data.toList.getD i 0).toNat : Int)), mem)
    | _ => none
  | .clr z x => match x.ev env with
    | .sk id ver o n => match mem id with
      | .row ver' e s m f => bif Nat.beq s 1 && Nat.beq z.length 1 then some (ver = ver', .tup [], Mem.set id (.row ver' e s m (fun j => bif Nat.ble o j && Nat.blt j (o + n) then mkElt z else f j)) mem) else none
      | _ => none
    | _ => none
  | .alloc site z => some (True, .ptr site ((mem site).ver + 1) 0, Mem.set site (.var ((mem site).ver + 1) z) mem)
  | .box site n v => bif (v.ev env).okv && (v.ev env).cells.all AV.isCell then
      some (True, .ptr site ((mem site).ver + 1) 0, Mem.set site (.var ((mem site).ver + 1) (v.ev env).cells) mem) else none
  | .lit site e sz len z parts => match len with
    | 0 => match parts with
      | [] => some (True, .sl site ((mem site).ver + 1) 0, Mem.set site (.row ((mem site).ver + 1) e sz 0 (fun _ => .undef)) mem)
      | _ => none
    | _ => match litA env sz parts (List.replicate len (mkElt z)) mem with
      | some (p, es, mem') => some (p, .sl site ((mem' site).ver + 1) len, Mem.set site (.row ((mem' site).ver + 1) e sz len (fun i => es.getD i .undef)) mem')
      | none => none
  | .make site e sz bytes z l c => match l.ev env, c.ev env with
    | .int _ n, .int _ m => some (0 ≤ n ∧ n ≤ m ∧ (bytes : Int) * m ≤ 140737488355328 ∧ m ≤ 9223372036854775807, .sl site ((mem site).ver + 1) n.toNat, Mem.set site (.row ((mem site).ver + 1) e sz n.toNat (fun _ => mkElt z)) mem)
    | _, _ => none
  | .app site e sz bytes x y => match appSrc sz (y.ev env) mem with
    | none => none
    | some (p, m, g) => match x.ev env with
      | .sl id ver n => match mem id with
        | .row ver' e' s n' f => bif Nat.beq e' e && Nat.beq s sz then
            some (p ∧ (∀ i, i < m → (g i).cells.length = sz ∧ (g i).cells.all AV.isCell = true) ∧ ver = ver' ∧ n ≤ n' ∧ (n + m) * bytes ≤ 140737488355328 ∧ n + m ≤ 9223372036854775807, .sl id (ver' + 1) (n + m), Mem.set id (.row (ver' + 1) e sz (n + m) (fun i => bif Nat.blt i n then f i else g (i - n))) mem) else none
        | _ => none
      | .cap0 => match m with
        | 0 => some (p, .cap0, mem)
        | m + 1 => some (p ∧ (∀ i, i < m + 1 → (g i).cells.length = sz ∧ (g i).cells.all AV.isCell = true) ∧ (m + 1) * bytes ≤ 140737488355328 ∧ m + 1 ≤ 9223372036854775807, .sl site ((mem site).ver + 1) (m + 1), Mem.set site (.row ((mem site).ver + 1) e sz (m + 1) g) mem)
      | _ => none

section
variable {P : Program} {X Y : Nat → Prop} {w0 w : World} {bl : Nat → Loc} {mem : Mem} {a : Act} {env : Env} {o : Oper}

/-- What is shown of an instruction that may turn memory. -/
def Eff (P : Program) (X Y : Nat → Prop) (w0 w : World) (bl : Nat → Loc) (mem : Mem) (a : Act) (o : Oper) (v : AV) (mem' : Mem) : Prop :=
  ∃ u w' bl', ((execOp a.eval o).run P w = .ok (.value u) w' ∨ ((execOp a.eval o).run P w = .ok .skip w' ∧ u = undef)) ∧ WS X Y w0 w' bl' mem' ∧
    VV w' (Fr X w' bl' mem') bl' mem' u v ∧ (∀ b, Fr X w bl mem b → Fr X w' bl' mem' b ∧ w'.heap[b]? = w.heap[b]?) ∧ Later mem mem' bl bl'

theorem Later.trans {m1 m2 m3 : Mem} {b1 b2 b3 : Nat → Loc} (h : Later m1 m2 b1 b2) (k : Later m2 m3 b2 b3) : Later m1 m3 b1 b3 := fun id => by
  obtain ⟨h1, h2⟩ := h id
  obtain ⟨k1, k2⟩ := k id
  refine ⟨Nat.le_trans h1 k1, fun e => ?_⟩
  obtain ⟨h3, h4⟩ := h2 (by omega)
  obtain ⟨k3, k4⟩ := k2 (by omega)
  refine ⟨?_, by rw [k4, h4]⟩
  cases e1 : m1 id <;> cases e2 : m2 id <;> cases e3 : m3 id <;> simp_all [Kept]
  all_goals omega

theorem Eff.of_yld {v : AV} (hw : WS X Y w0 w bl mem) (h : Yld P w (Fr X w bl mem) bl mem a o v) : Eff P X Y w0 w bl mem a o v mem :=
  let ⟨u, h1, h2⟩ := h
  ⟨u, w, bl, .inl h1, hw, h2, fun _ hb => ⟨hb, rfl⟩, Later.refl _ _⟩

theorem VV.toFz {F : Nat → Prop} {u : Value} {c : AV} (h : VV w F bl mem u c) (hf : isFz0 c = true) : FV w F u c := by
  cases h with
  | fz g => exact g
  | _ => simp [isFz0] at hf

/-! ### letting a row go -/
theorem frz_one (hw : WS X Y w0 w bl mem) {id ver n : Nat} {e sz m : Nat} {f : Nat → AV} (hm : mem id = .row ver e sz m f) {u : Value} (hu : VV w (Fr X w bl mem) bl mem u (.sl id ver n)) :
    ∃ bl', WS X Y w0 w bl' (Mem.set id (.dead (ver + 1)) mem) ∧ (∀ b, Fr X w bl mem b → Fr X w bl' (Mem.set id (.dead (ver + 1)) mem) b) ∧ Later mem (Mem.set id (.dead (ver + 1)) mem) bl bl' ∧
      FV w (Fr X w bl' (Mem.set id (.dead (ver + 1)) mem)) u (.fs n f) := by
  have hv : (mem id).ver = ver := by rw [hm]; rfl
  obtain ⟨h1, h2, h3⟩ := WS.upd (w' := w) hw id (.dead (ver + 1)) .none (by rw [hv]; exact Nat.le_succ _) (fun g => by rw [hv] at g; simp only [AO.ver] at g; omega) rfl rfl rfl (Nat.le_refl _) (fun _ _ _ => rfl) (fun b c h _ => by cases h) (fun _ _ => trivial)
  refine ⟨_, h1, fun b hb => (h2 b hb).1, h3, ?_⟩
  obtain ⟨_, _, _, _, hinv⟩ := hu.sl_inv
  obtain ⟨hle, hu'⟩ := hinv _ _ _ _ hm
  rw [hu']
  have hob := hw.obj id
  rw [hm] at hob
  obtain ⟨hz, xs, hown, hr⟩ := hob
  cases hloc : bl id with
  | none =>
    rw [hloc] at hown
    have hn0 : m = 0 := by
      rcases hown.2 with ⟨_, g⟩ | ⟨_, _, _, hv', _⟩
      · exact g
      · simp [slv] at hv'
    obtain rfl : n = 0 := by omega
    exact .fs0 _ _ _
  | blk b c =>
    rw [hloc] at hown
    have hmc : m ≤ c := by
      rcases hown.2 with ⟨hv', _⟩ | ⟨_, _, _, hv', _, _, g, _⟩
      · simp [slv] at hv'
      · simp [slv] at hv'; omega
    have hd : (mem id).live = true := by rw [hm]; rfl
    have hbo := hw.own id b c hd hloc
    rcases Nat.eq_zero_or_pos n with h0 | h0
    · subst h0; exact .fs0 _ _ _
    · refine .fs ⟨b, 0, none⟩ n c sz f (fun i j => xs.getD (i * sz + j) undef) ⟨hbo.2.2, hbo.1, ?_⟩ (by omega) hz (fun i hi => (hr i (by omega)).1) (fun i j hi hj => ?_) (fun i j hi hj => ((hr i (by omega)).2 j hj).mono h2)
      · rintro ⟨i, c', hi, hb⟩
        by_cases ei : i = id
        · rw [ei, set_same] at hi; cases hi
        · rw [set_ne ei] at hi
          rw [updL_ne ei] at hb
          exact ei (hw.inj i id b c' c hi hd hb hloc)
      · have hlt : i * sz + j < xs.length := by rw [hown.1]; have := cells_le (n := 1) (show i < m by omega) (show j + 1 ≤ sz by omega); omega
        exact hown.cells (g := b) rfl _ _ (by simp [List.getD_eq_getElem?_getD, hlt])

theorem frzL_sound : ∀ (cs : List AV) (mem : Mem) (bl : Nat → Loc) (us : Nat → Value) (q : Prop) (r : List AV) (mem' : Mem), WS X Y w0 w bl mem →
    (∀ j, j < cs.length → VV w (Fr X w bl mem) bl mem (us j) (cs.getD j .undef)) → frzL cs mem = some (q, r, mem') → q →
    ∃ bl', WS X Y w0 w bl' mem' ∧ (∀ b, Fr X w bl mem b → Fr X w bl' mem' b) ∧ Later mem mem' bl bl' ∧ r.length = cs.length ∧ r.all AV.isCell = true ∧
      ∀ j, j < cs.length → FV w (Fr X w bl' mem') (us j) (r.getD j .undef)
  | [], mem, bl, us, q, r, mem', hw, hu, h, hq => by
    simp only [frzL, Option.some.injEq, Prod.mk.injEq] at h
    obtain ⟨_, rfl, rfl⟩ := h
    exact ⟨bl, hw, fun _ h => h, Later.refl _ _, rfl, rfl, fun j hj => by simp at hj⟩
  | c :: cs, mem, bl, us, q, r, mem', hw, hu, h, hq => by
    simp only [frzL] at h
    split at h
    · rename_i p c' mem1 hc
      split at h <;> cases h
      rename_i q' r' hrest
      obtain ⟨hp, hq'⟩ := hq
      have h0 := hu 0 (by simp)
      simp only [List.getD_cons_zero] at h0
      have one : ∃ bl1, WS X Y w0 w bl1 mem1 ∧ (∀ b, Fr X w bl mem b → Fr X w bl1 mem1 b) ∧ Later mem mem1 bl bl1 ∧ FV w (Fr X w bl1 mem1) (us 0) c' ∧ c'.isCell = true := by
        by_cases hsl : ∃ id ver n, c = .sl id ver n
        · obtain ⟨id, ver, n, rfl⟩ := hsl
          simp only [frz0] at hc
          split at hc <;> cases hc
          rename_i ver' e s m f hm
          subst hp
          obtain ⟨bl1, g1, g2, g3, g4⟩ := frz_one hw hm h0
          exact ⟨bl1, g1, g2, g3, g4, rfl⟩
        · have hcc : p = True ∧ c' = c ∧ mem1 = mem ∧ isFz0 c = true := by
            cases c <;> first | (exact absurd ⟨_, _, _, rfl⟩ hsl) | (simp [frz0, isFz0] at hc; done) | (simp only [frz0, isFz0, cond_true, Option.some.injEq, Prod.mk.injEq] at hc; obtain ⟨rfl, rfl, rfl⟩ := hc; exact ⟨rfl, rfl, rfl, rfl⟩)
          obtain ⟨_, rfl, rfl, hfz⟩ := hcc
          exact ⟨bl, hw, fun _ h => h, Later.refl _ _, h0.toFz hfz, by cases c' <;> first | rfl | simp [isFz0] at hfz⟩
      obtain ⟨bl1, g1, g2, g3, g4, g5⟩ := one
      obtain ⟨bl', h1, h2, h3, h4, h5, h6⟩ := frzL_sound cs mem1 bl1 (fun j => us (j + 1)) q' r' mem' g1 (fun j hj => by simpa using (hu (j + 1) (by simpa using hj)).mono (fun b hb => ⟨g2 b hb, rfl⟩) g3) hrest hq'
      refine ⟨bl', h1, fun b hb => h2 b (g2 b hb), g3.trans h3, by simp [h4], by simp only [List.all_cons, h5, g5, Bool.and_true], fun j hj => ?_⟩
      cases j with
      | zero => simpa using g4.mono (fun b hb => ⟨h2 b hb, rfl⟩)
      | succ j => simpa using h6 j (by simpa using hj)
    · cases h

theorem frzV_sound {v : AV} {u : Value} {q : Prop} {r : List AV} {mem' : Mem} (hw : WS X Y w0 w bl mem)
    (hu : VV w (Fr X w bl mem) bl mem u v) (h : frzV v mem = some (q, r, mem')) (hq : q) :
    ∃ bl', WS X Y w0 w bl' mem' ∧ (∀ b, Fr X w bl mem b → Fr X w bl' mem' b) ∧ Later mem mem' bl bl' ∧ r.length = u.cells.size ∧ r.all AV.isCell = true ∧
      ∀ j, j < r.length → FV w (Fr X w bl' mem') (u.cells.getD j undef) (r.getD j .undef) := by
  unfold frzV at h
  cases ho : v.okv with
  | false => rw [ho] at h; cases h
  | true =>
    rw [ho] at h
    have hs := hu.cells_size ho
    have hc := hu.cellsOf hs
    obtain ⟨bl', h1, h2, h3, h4, h5, h6⟩ := frzL_sound v.cells mem bl (fun j => u.cells.getD j undef) q r mem' hw (fun j hj => hc j hj) h hq
    exact ⟨bl', h1, h2, h3, by omega, h5, fun j hj => h6 j (by omega)⟩

end
end Go.Ab
