/- More instructions that turn nothing: structs compared, maps looked up. -/
import Derived.Test.YtodncnlnadgkhaaFwF
import Derived.Laws.StructEq
set_option linter.unusedSimpArgs false
set_option linter.unusedVariables false
namespace Go.Ab
open Go

def basicT (P : Program) (t : TypeId) : Option BK := match P.underlying t, tsize P t with
  | some (.int _), some 1 => some .int
  | some .bool, some 1 => some .bool
  | some .string, some 1 => some .str
  | _, _ => none
def eqFlat (P : Program) : Nat → List Field → Option (List BK)
  | _, [] => some []
  | off, f :: r => bif !decide (f.name = "_") && Nat.beq f.offset off then
      match basicT P f.type, eqFlat P (off + 1) r with
      | some k, some ks => some (k :: ks)
      | _, _ => none
    else none
def intFlat (P : Program) : Nat → List Field → Option (List IntKind)
  | _, [] => some []
  | off, f :: r => bif !decide (f.name = "_") && Nat.beq f.offset off then
      match P.underlying f.type, tsize P f.type, intFlat P (off + 1) r with
      | some (.int k), some 1, some ks => some (k :: ks)
      | _, _, _ => none
    else none
def mkOf (P : Program) (t : TypeId) : Option MK := match P.underlying t with
  | some .string => some .str
  | some (.int k) => some (.int k)
  | some (.struct fs) => bif !P.stoodInHeld t then (intFlat P 0 fs.toList).map .ints else none
  | _ => none
def ekOf (P : Program) (t : TypeId) : Option (Option IntKind) := match P.underlying t, (P.info? t).bind (·.zero) with
  | some (.int k), some (.int k' 0) => bif kEq k k' then some (some k) else none
  | some .bool, some (.bool false) => some none
  | _, _ => none

def compV2 (P : Program) (op : Op) : Option AI :=
  match op with
  | .binOp op t x y _ => match P.underlying t with
    | some (.struct fs) => bif !P.stoodInHeld t && !P.eqGuardType P.depth t then
        match op, eqFlat P 0 fs.toList with
        | .eql, some ks => some (.aeq ks false (Opd.of x) (Opd.of y))
        | .neq, some ks => some (.aeq ks true (Opd.of x) (Opd.of y))
        | _, _ => none
      else none
    | some (.pointer _) => match op, y with
      | .eql, .const (.pointer none) => some (.pnil false (Opd.of x))
      | .neq, .const (.pointer none) => some (.pnil true (Opd.of x))
      | _, _ => none
    | _ => none
  | .lookup t x i ok => match P.underlying t with
    | some (.map kt et) => match mkOf P kt, ekOf P et with
      | some d, some k => some (.lku ok d k (Opd.of x) (Opd.of i))
      | _, _ => none
    | _ => none
  | .call c => match c.callee, c.args.toList, c.argTypes.toList with
    | .builtin .cap, [x], [t] => match P.underlying t with
      | some (.slice _) => some (.cp (Opd.of x))
      | _ => none
    | _, _, _ => none
  | _ => none
def compVX (P : Program) (op : Op) : Option AI := match compV P op with
  | some i => some i
  | none => compV2 P op

section
variable {P : Program} {X Y : Nat → Prop} {w0 w : World} {F : Nat → Prop} {bl : Nat → Loc} {mem : Mem} {a : Act} {env : Env} {o : Oper}

theorem drop_cons {cs rest : List AV} {off : Nat} {y : AV} (h : cs.drop off = y :: rest) : cs.drop (off + 1) = rest := by
  rw [← List.drop_drop, h]; rfl

theorem eqFields_run {us vs : Array Value} {xs ys : List AV} (hxl : us.size = xs.length) (hyl : vs.size = ys.length) (hx : ∀ j, j < xs.length → VV w F bl mem (us.getD j undef) (xs.getD j .undef)) (hy : ∀ j, j < ys.length → VV w F bl mem (vs.getD j undef) (ys.getD j .undef)) (d : Nat) :
    ∀ (fs : List Field) (off : Nat) (ks : List BK) (b : Bool), eqFlat P off fs = some ks → eqCells ks (xs.drop off) (ys.drop off) = some b → (Op.eqFields (d + 1) us vs fs).run P w = .ok b w
  | [], off, ks, b, hF, hE => by
    cases hF
    cases hxs : xs.drop off with
    | cons x r => rw [hxs] at hE; cases hys : ys.drop off <;> rw [hys] at hE <;> simp [eqCells] at hE
    | nil =>
      rw [hxs] at hE
      cases hys : ys.drop off with
      | nil => rw [hys] at hE; cases hE; simp [Op.eqFields]
      | cons y r => rw [hys] at hE; simp [eqCells] at hE
  | f :: fs, off, ks0, b, hF, hE => by
    simp only [eqFlat] at hF
    generalize hbb : (!decide (f.name = "_") && Nat.beq f.offset off) = bb at hF
    cases bb with
    | false => cases hF
    | true =>
      simp only [Bool.and_eq_true, Bool.not_eq_true', decide_eq_false_iff_not] at hbb
      obtain ⟨hn, ho⟩ := hbb
      have ho := Nat.eq_of_beq_eq_true ho
      simp only [cond_true] at hF
      split at hF <;> cases hF
      rename_i k ks hk hks
      cases hxs : xs.drop off with
      | nil => rw [hxs] at hE; cases k <;> simp [eqCells] at hE
      | cons x xr =>
        cases hys : ys.drop off with
        | nil => rw [hxs, hys] at hE; cases k <;> cases x <;> simp [eqCells] at hE
        | cons y yr =>
          rw [hxs, hys] at hE
          have ih := fun b' h => eqFields_run hxl hyl hx hy d fs (off + 1) ks b' hks (by rw [drop_cons hxs, drop_cons hys]; exact h)
          have go : ∀ (dsc : TypeDesc), P.underlying f.type = some dsc → tsize P f.type = some 1 → aggT P f.type = false → ∃ u1 u2, (part f.type us f.offset).run P w = .ok u1 w ∧ VV w F bl mem u1 x ∧ (part f.type vs f.offset).run P w = .ok u2 w ∧ VV w F bl mem u2 y ∧
              ∀ (e r : Bool), (Op.equalIn (d + 1) f.type u1 u2).run P w = .ok e w → eqCells ks xr yr = some r → (e && r) = b → (Op.eqFields (d + 1) us vs (f :: fs)).run P w = .ok b w := fun dsc hu hs1 hag => by
            obtain ⟨u1, hr1, hv1⟩ := run_part (P := P) (w := w) (F := F) (bl := bl) (mem := mem) hu hs1 hxl hx (ofs := f.offset) (v := x) (by rw [hag, ho, hxs]; rfl)
            obtain ⟨u2, hr2, hv2⟩ := run_part (P := P) (w := w) (F := F) (bl := bl) (mem := mem) hu hs1 hyl hy (ofs := f.offset) (v := y) (by rw [hag, ho, hys]; rfl)
            refine ⟨u1, u2, hr1, hv1, hr2, hv2, fun e r h1 h2 h3 => ?_⟩
            simp only [Op.eqFields, ne_eq, hn, not_false_eq_true, if_true, Sem.run_bind, hr1, hr2, h1, Result.andThen_ok]
            cases e with
            | false => simp at h3; simp [h3]
            | true => simp at h3; simpa [h3] using ih r h2
          unfold basicT at hk
          split at hk <;> cases hk
          · rename_i k0 hu hs1
            obtain ⟨u1, u2, hr1, hv1, hr2, hv2, key⟩ := go _ hu hs1 (by unfold aggT; rw [hu])
            cases x <;> cases y <;> simp only [eqCells] at hE <;> try (cases hE; done)
            rename_i k m k' n
            cases hkk : kEq k k' with
            | false => rw [hkk] at hE; cases hE
            | true =>
              rw [hkk] at hE
              obtain ⟨r, h2, h3⟩ := Option.map_eq_some_iff.1 hE
              have hkk := kEq_eq hkk
              subst hkk
              refine key (m == n) r ?_ h2 h3
              rw [hv1.int_inv, hv2.int_inv]
              exact run_equalIn_int w d f.type _ _ m n hu
          · rename_i hu hs1
            obtain ⟨u1, u2, hr1, hv1, hr2, hv2, key⟩ := go _ hu hs1 (by unfold aggT; rw [hu])
            cases x <;> cases y <;> simp only [eqCells] at hE <;> try (cases hE; done)
            rename_i m n
            obtain ⟨r, h2, h3⟩ := Option.map_eq_some_iff.1 hE
            refine key (m == n) r ?_ h2 h3
            rw [hv1.bool_inv, hv2.bool_inv]
            exact run_equalIn_bool' w d f.type m n hu
          · rename_i hu hs1
            obtain ⟨u1, u2, hr1, hv1, hr2, hv2, key⟩ := go _ hu hs1 (by unfold aggT; rw [hu])
            cases x <;> cases y <;> simp only [eqCells] at hE <;> try (cases hE; done)
            rename_i m n
            obtain ⟨r, h2, h3⟩ := Option.map_eq_some_iff.1 hE
            refine key (m.toList == n.toList) r ?_ h2 h3
            rw [hv1.str_inv, hv2.str_inv]
            exact run_equalIn_string w d f.type m n hu

theorem ekOf_zero {et : TypeId} {k : Option IntKind} (h : ekOf P et = some k) : (zeroValue et).run P w = .ok (elV k 0) w := by
  unfold ekOf at h
  split at h
  · rename_i k1 k2 h1 h2
    cases hk : kEq k1 k2 with
    | false => rw [hk] at h; cases h
    | true =>
      rw [hk] at h
      cases h
      obtain ⟨i, hi, hz⟩ := Option.bind_eq_some_iff.1 h2
      have := kEq_eq hk
      subst this
      simp [zeroValue, typeInfo, hi, hz, elV]
  · rename_i h1 h2
    cases h
    obtain ⟨i, hi, hz⟩ := Option.bind_eq_some_iff.1 h2
    simp [zeroValue, typeInfo, hi, hz, elV]
  · cases h

/-! ### keys -/
theorem intFlat_bk : ∀ (fs : List Field) (off : Nat) (ks : List IntKind), intFlat P off fs = some ks → eqFlat P off fs = some (ks.map fun _ => .int)
  | [], off, ks, h => by cases h; rfl
  | f :: r, off, ks0, h => by
    simp only [intFlat] at h
    simp only [eqFlat]
    generalize (!decide (f.name = "_") && Nat.beq f.offset off) = bb at h ⊢
    cases bb with
    | false => cases h
    | true =>
      simp only [cond_true] at h ⊢
      split at h <;> cases h
      rename_i k ks h1 h2 h3
      have hb : basicT P f.type = some .int := by unfold basicT; rw [h1, h2]; rfl
      rw [hb, intFlat_bk r (off + 1) ks h3]
      rfl
theorem ints_eq : ∀ {ks : List IntKind} {l l' : List Value}, aggInts ks l → aggInts ks l' → eqCells (ks.map fun _ => BK.int) (l.map cvs) (l'.map cvs) = some (keyEqL l l')
  | [], [], [], _, _ => rfl
  | [], _ :: _, _, h, _ => by simp [aggInts] at h
  | [], [], _ :: _, _, h => by simp [aggInts] at h
  | _ :: _, [], _, h, _ => by simp [aggInts] at h
  | _ :: _, _ :: _, [], _, h => by simp [aggInts] at h
  | k :: ks, x :: r, y :: s, h, h' => by
    cases x <;> simp only [aggInts] at h
    cases y <;> simp only [aggInts] at h'
    obtain ⟨rfl, h⟩ := h
    obtain ⟨rfl, h'⟩ := h'
    rename_i a j b
    have hk : kEq j j = true := by cases j <;> rfl
    have hab : (a == b) = decide (a = b) := by rw [Bool.eq_iff_iff]; simp
    simp only [List.map_cons, cvs, eqCells, hk, cond_true, ints_eq h h', Option.map_some, keyEqL, decide_true, Bool.true_and, hab]
theorem aggInts_at : ∀ {ks : List IntKind} {l : List Value}, aggInts ks l → l.length = ks.length
  | [], [], _ => rfl
  | [], _ :: _, h => by simp [aggInts] at h
  | _ :: _, [], h => by simp [aggInts] at h
  | k :: ks, x :: r, h => by
    cases x <;> simp only [aggInts] at h
    simp [aggInts_at h.2]
theorem aggInts_get : ∀ {ks : List IntKind} {l : List Value} {j : Nat} {k : IntKind}, aggInts ks l → ks[j]? = some k → ∃ n, l[j]? = some (.int k n)
  | [], [], _, _, _, h => by simp at h
  | [], _ :: _, _, _, h, _ => by simp [aggInts] at h
  | _ :: _, [], _, _, h, _ => by simp [aggInts] at h
  | k :: ks, x :: r, j, k0, h, hj => by
    cases x <;> simp only [aggInts] at h
    cases j with
    | zero => simp at hj ⊢; rw [← hj, h.1]
    | succ j => simpa using aggInts_get h.2 (by simpa using hj)

theorem checkFields (vs : Array Value) (e : Bool) (n : Nat) : ∀ (fs : List Field) (off : Nat) (ks : List IntKind), intFlat P off fs = some ks → (∀ j k, ks[j]? = some k → ∃ m, vs[off + j]? = some (.int k m)) →
    (forIn fs () (fun (f : Field) _ => do
      if f.name ≠ "_" then Instr.checkKey e (n + 1) f.type (← part f.type vs f.offset)
      pure (ForInStep.yield ()))).run P w = .ok () w
  | [], off, ks, h, _ => by simp
  | f :: r, off, ks0, h, hv => by
    simp only [intFlat] at h
    generalize hbb : (!decide (f.name = "_") && Nat.beq f.offset off) = bb at h
    cases bb with
    | false => cases h
    | true =>
      simp only [Bool.and_eq_true, Bool.not_eq_true', decide_eq_false_iff_not] at hbb
      obtain ⟨hn, ho⟩ := hbb
      have ho := Nat.eq_of_beq_eq_true ho
      simp only [cond_true] at h
      split at h <;> cases h
      rename_i k ks h1 h2 h3
      obtain ⟨m, hm⟩ := hv 0 k rfl
      obtain ⟨ti, hti, htin⟩ := Option.map_eq_some_iff.1 h2
      have hagg : (isAgg f.type).run P w = .ok false w := by simp [isAgg, run_underlying h1]
      have hp : (part f.type vs f.offset).run P w = .ok (.int k m) w := by
        rw [ho]
        simp only [Nat.add_zero] at hm
        simp only [part, Sem.run_bind, hagg, Result.andThen_ok, hm]
        rfl
      have hck : (Instr.checkKey e (n + 1) f.type (.int k m)).run P w = .ok () w := MapKept.run_checkKey (d := .int k) (k := .int k m) h1 rfl e n
      have ih := checkFields vs e n r (off + 1) ks h3 (fun j k' hj => by
        have := hv (j + 1) k' (by simpa using hj)
        rwa [show off + (j + 1) = off + 1 + j by omega] at this)
      simp only [List.forIn_cons, Sem.run_bind, ne_eq, hn, not_false_eq_true, if_true, hp, hck, Result.andThen_ok, Sem.run_pure]
      exact ih

theorem run_check {kt : TypeId} {d : MK} {kv : Value} (hd : mkOf P kt = some d) (hk : d.isK kv) (e : Bool) : (Instr.checkKey e 10000 kt kv).run P w = .ok () w := by
  unfold mkOf at hd
  split at hd
  · rename_i hu
    cases hd
    cases kv <;> simp only [MK.isK] at hk
    exact MapKept.run_checkKey (d := .string) hu (by trivial) e 9999
  · rename_i k hu
    cases hd
    cases kv <;> simp only [MK.isK] at hk
    exact MapKept.run_checkKey (d := .int k) hu (by exact hk) e 9999
  · rename_i fs hu
    generalize hb : P.stoodInHeld kt = bb at hd
    cases bb with
    | true => cases hd
    | false =>
      obtain ⟨ks, hks, rfl⟩ := Option.map_eq_some_iff.1 hd
      cases kv <;> simp only [MK.isK] at hk
      rename_i vs
      have h1 := checkFields (P := P) (w := w) vs e 9998 fs.toList 0 ks hks (fun j k hj => by
        obtain ⟨n, hn⟩ := aggInts_get hk hj
        exact ⟨n, by simpa using hn⟩)
      show (Instr.checkKey e (9999 + 1) kt (.agg vs)).run P w = .ok () w
      unfold Instr.checkKey
      simp only [Sem.run_bind, run_underlying hu, Result.andThen_ok]
      rw [← Array.forIn_toList, h1]
      rfl
  · cases hd

theorem equal_key {kt : TypeId} {ks : List IntKind} (hd : mkOf P kt = some (.ints ks)) {x y : Array Value} (hx : aggInts ks x.toList) (hy : aggInts ks y.toList) : (Op.equal kt (.agg x) (.agg y)).run P w = .ok (keyEqL x.toList y.toList) w := by
  unfold mkOf at hd
  split at hd
  · cases hd
  · cases hd
  · rename_i fs hu
    generalize hb : P.stoodInHeld kt = bb at hd
    cases bb with
    | true => cases hd
    | false =>
      obtain ⟨ks', hks, h⟩ := Option.map_eq_some_iff.1 hd
      cases h
      have hfo : P.fieldsOf kt = fs := by unfold Program.fieldsOf; rw [hu]
      have hc : ∀ (z : Array Value), ∀ j, j < (z.toList.map cvs).length → VV w (fun _ => True) (fun _ => .none) (fun _ => .dead 0) (z.getD j undef) ((z.toList.map cvs).getD j .undef) := fun z j hj => by
        have hj' : j < z.size := by simpa using hj
        have : (z.toList.map cvs).getD j .undef = cvs (z.getD j undef) := by simp [List.getD_eq_getElem?_getD, hj']
        rw [this]
        exact .fz (FV.cvs _)
      show (Op.equalIn 10000 kt (.agg x) (.agg y)).run P w = _
      rw [show (10000 : Nat) = 9998 + 1 + 1 from rfl, run_equalIn_struct w _ kt x y (by rw [hfo]; exact hu) hb, hfo]
      exact eqFields_run (by simp) (by simp) (hc x) (hc y) 9998 fs.toList 0 _ _ (intFlat_bk _ _ _ hks) (by simpa using ints_eq hx hy)
  · cases hd

theorem findAsk {kt : TypeId} {ks : List IntKind} (hd : mkOf P kt = some (.ints ks)) {kv : Value} (hk : (MK.ints ks).isK kv) : ∀ (l : List MapEntry) (i : Nat), (∀ x ∈ l, (MK.ints ks).isK x.key) →
    ((Instr.findAsking kt kv l i).run P w = .ok none w ∧ ∀ x ∈ l, x.key ≠ kv) ∨ ∃ j e, (Instr.findAsking kt kv l i).run P w = .ok (some (i + j, e.val)) w ∧ l[j]? = some e ∧ e.key = kv
  | [], i, _ => .inl ⟨by simp [Instr.findAsking], by simp⟩
  | e :: es, i, h => by
    have he := h e (.head _)
    cases hkv : kv with
    | agg x =>
      rw [hkv] at hk
      cases hek : e.key with
      | agg y =>
        rw [hek] at he
        have hq := equal_key (P := P) (w := w) hd hk he
        cases hb : keyEqL x.toList y.toList with
        | true =>
          rw [hb] at hq
          have := Array.toList_inj.1 (keyEqL_true hb)
          exact .inr ⟨0, e, by simp [Instr.findAsking, hek, hq], rfl, by rw [hek, this]⟩
        | false =>
          rw [hb] at hq
          have hne : e.key ≠ .agg x := fun q => by
            rw [hek] at q
            cases q
            rw [keyEqL_self hk] at hb
            cases hb
          have ih := findAsk hd (kv := .agg x) hk es (i + 1) (fun x hx => h x (.tail _ hx))
          rcases ih with ⟨h1, h2⟩ | ⟨j, e', h1, h2, h3⟩
          · exact .inl ⟨by simp [Instr.findAsking, hek, hq, h1], fun x hx => by
              cases hx with
              | head => exact hne
              | tail _ hx => exact h2 x hx⟩
          · exact .inr ⟨j + 1, e', by simp [Instr.findAsking, hek, hq, h1]; omega, by simpa using h2, h3⟩
      | _ => rw [hek] at he; simp [MK.isK] at he
    | _ => rw [hkv] at hk; simp [MK.isK] at hk

theorem findKey_spec {kt : TypeId} {d : MK} (hd : mkOf P kt = some d) {kv : Value} (hk : d.isK kv) (l : List MapEntry) (h : ∀ x ∈ l, d.isK x.key) :
    ((Instr.findKey kt kv l).run P w = .ok none w ∧ ∀ x ∈ l, x.key ≠ kv) ∨ ∃ j e, (Instr.findKey kt kv l).run P w = .ok (some (j, e.val)) w ∧ l[j]? = some e ∧ e.key = kv := by
  have plain : ∀ (td : TypeDesc), P.underlying kt = some td → MapKept.IsKey td kv → (∀ x ∈ l, MapKept.IsKey td x.key) → ((Instr.findKey kt kv l).run P w = .ok none w ∧ ∀ x ∈ l, x.key ≠ kv) ∨ ∃ j e, (Instr.findKey kt kv l).run P w = .ok (some (j, e.val)) w ∧ l[j]? = some e ∧ e.key = kv := fun td hu h1 h2 => by
    rcases MapKept.findNow_spec h1 l 0 h2 with ⟨h1, h2⟩ | ⟨j, e, h1, h2, h3⟩
    · exact .inl ⟨MapKept.run_findKey hu h1, h2⟩
    · exact .inr ⟨j, e, by simpa using MapKept.run_findKey hu h1, h2, h3⟩
  have hd0 := hd
  unfold mkOf at hd
  split at hd
  · rename_i hu
    cases hd
    refine plain _ hu ?_ fun x hx => ?_
    · cases kv <;> simp only [MK.isK] at hk; trivial
    · have := h x hx
      cases hkx : x.key <;> rw [hkx] at this <;> simp only [MK.isK] at this; trivial
  · rename_i k hu
    cases hd
    refine plain _ hu ?_ fun x hx => ?_
    · cases kv <;> simp only [MK.isK] at hk; exact hk
    · have := h x hx
      cases hkx : x.key <;> rw [hkx] at this <;> simp only [MK.isK] at this; exact this
  · rename_i fs hu
    generalize hb : P.stoodInHeld kt = bb at hd
    cases bb with
    | true => cases hd
    | false =>
      obtain ⟨ks, hks, rfl⟩ := Option.map_eq_some_iff.1 hd
      have ask := findAsk (P := P) (w := w) hd0 hk l 0 h
      cases l with
      | nil => exact .inl ⟨by simp [Instr.findKey, run_underlying hu, Instr.findNow], by simp⟩
      | cons e es =>
        have hn : Instr.findNow (.struct fs) kv (e :: es) 0 = none := by
          cases kv <;> simp only [MK.isK] at hk
          simp [Instr.findNow, Instr.sameNow]
        have heq : (Instr.findKey kt kv (e :: es)).run P w = (Instr.findAsking kt kv (e :: es)).run P w := by
          simp [Instr.findKey, run_underlying hu, hn]
        rw [heq]
        simpa using ask
  · cases hd

theorem stays {d : MK} {kv : Value} (hk : d.isK kv) : (Instr.keyThatStays kv kv).run P w = .ok kv w := by
  have ag : ∀ {ks : List IntKind} {l : List Value} (n : Nat), aggInts ks l → ((l.zip l).all fun (x, y) => Instr.sameBits n x y) = true := fun {ks l} n => by
    induction ks generalizing l with
    | nil => cases l <;> simp [aggInts]
    | cons k ks ih =>
      intro h
      cases l with
      | nil => simp
      | cons x r =>
        cases x <;> simp only [aggInts] at h
        simp only [List.zip_cons_cons, List.all_cons, ih h.2, Bool.and_true, Instr.sameBits]
        simp
  cases d <;> cases kv <;> simp only [MK.isK] at hk
  · exact MapKept.run_keyThatStays (d := .string) trivial
  · exact MapKept.run_keyThatStays (d := .int _) hk
  · rename_i ks vs
    have : Instr.sameBits 10000 (.agg vs) (.agg vs) = true := by
      rw [show (10000 : Nat) = 9999 + 1 from rfl]
      simp only [Instr.sameBits, ag 9999 hk, Bool.and_true]
      simp
    simp [Instr.keyThatStays, this]

theorem intsV_sound : ∀ {ks : List IntKind} {cs : List AV} {r : List Value} {us : List Value}, intsV ks cs = some r → us.length = cs.length → (∀ j, j < cs.length → VV w F bl mem (us.getD j undef) (cs.getD j .undef)) → us = r ∧ aggInts ks r
  | [], [], r, us, h, hl, _ => by cases h; exact ⟨List.eq_nil_of_length_eq_zero hl, trivial⟩
  | [], _ :: _, _, _, h, _, _ => by simp [intsV] at h
  | _ :: _, [], _, _, h, _, _ => by simp [intsV] at h
  | k :: ks, c :: cs, r, us, h, hl, hv => by
    cases c <;> simp only [intsV] at h <;> try (cases h; done)
    rename_i k' n
    cases hk : kEq k k' with
    | false => rw [hk] at h; cases h
    | true =>
      rw [hk] at h
      have := kEq_eq hk
      subst this
      obtain ⟨r', h1, rfl⟩ := Option.map_eq_some_iff.1 h
      cases us with
      | nil => simp at hl
      | cons u us =>
        obtain ⟨e1, e2⟩ := intsV_sound (us := us) h1 (by simpa using hl) (fun j hj => by simpa using hv (j + 1) (by simpa using hj))
        have h0 := hv 0 (by simp)
        simp only [List.getD_cons_zero] at h0
        exact ⟨by rw [h0.int_inv, e1], rfl, e2⟩

theorem keyV_sound {d : MK} {u : Value} {v : AV} {kv : Value} (hu : VV w F bl mem u v) (h : keyV d v = some kv) : u = kv ∧ d.isK kv := by
  cases d <;> cases v <;> simp only [keyV] at h <;> try (cases h; done)
  · cases h; exact ⟨hu.str_inv, trivial⟩
  · rename_i k k' n
    cases hk : kEq k k' with
    | false => rw [hk] at h; cases h
    | true =>
      rw [hk] at h
      cases h
      have := kEq_eq hk
      subst this
      exact ⟨hu.int_inv, rfl⟩
  · obtain ⟨r, h1, rfl⟩ := Option.map_eq_some_iff.1 h
    obtain ⟨vs, rfl, hl, hr⟩ := hu.agg_inv
    obtain ⟨e1, e2⟩ := intsV_sound (us := vs.toList) h1 (by simpa using hl) (fun j hj => by simpa [List.getD_eq_getElem?_getD] using hr j hj)
    exact ⟨by rw [← e1], by simpa [MK.isK] using e2⟩

theorem elV_sound (k : Option IntKind) (n : Int) : FV w F (elV k n) (elA k n) := by cases k <;> constructor

theorem find_in {kt : TypeId} {es : Array MapEntry} {clock : Nat} {d : MK} {k : Option IntKind} {p : Value → Bool} {g : Value → Int} (hd : mkOf P kt = some d) (h : MapRep es clock d k p g) {kv : Value} (hk : d.isK kv) :
    ((Instr.findKey kt kv es.toList).run P w = .ok none w ∧ p kv = false ∧ ∀ x ∈ es.toList, x.key ≠ kv) ∨ ∃ j e, (Instr.findKey kt kv es.toList).run P w = .ok (some (j, e.val)) w ∧ es.toList[j]? = some e ∧ e.key = kv ∧ p kv = true ∧ e.val = elV k (g kv) := by
  obtain ⟨hs, hik, hv, hp, hg⟩ := h
  rcases findKey_spec (P := P) (w := w) hd hk es.toList hik with ⟨h1, h2⟩ | ⟨j, e, h1, h2, h3⟩
  · refine .inl ⟨h1, ?_, h2⟩
    cases hpk : p kv with
    | false => rfl
    | true =>
      obtain ⟨x, hx, e⟩ := hp kv hpk
      exact absurd e (h2 x hx)
  · have hm : e ∈ es.toList := List.mem_of_getElem? h2
    obtain ⟨q1, q2⟩ := hv e hm
    rw [h3] at q1 q2
    exact .inr ⟨j, e, h1, h2, h3, q1, q2⟩

theorem run_equal_ptr {t e : TypeId} (ht : P.underlying t = some (.pointer e)) (ad : Option Addr) : (Op.equal t (.pointer ad) (.pointer none)).run P w = .ok ad.isNone w := by
  have key : ∀ d, (Op.equalIn (d + 1) t (.pointer ad) (.pointer none)).run P w = .ok ad.isNone w := fun d => by cases ad <;> simp [Op.equalIn, run_underlying ht]
  exact key 9999
theorem run_eqGuard_ptr (op : BinOp) (t : TypeId) (x y : Operand) (ad bd : Option Addr) : (eqGuard op t x y (.pointer ad) (.pointer bd)).run P w = .ok () w := by
  unfold eqGuard
  cases op <;> simp
theorem nilEqlP {F : Nat → Prop} {t e : TypeId} {x : Operand} {yt : TypeId} (ho : o.op = .binOp .eql t x (.const (.pointer none)) yt) (ht : P.underlying t = some (.pointer e)) {ad : Option Addr} (hu : a.eval x = .pointer ad) : Yld P w F bl mem a o (.bool ad.isNone) := by
  refine Yld.of ho (do eqGuard .eql t x (.const (.pointer none)) (a.eval x) (a.eval (.const (.pointer none))); binOp .eql t (a.eval x) (a.eval (.const (.pointer none)))) rfl ?_ (.fz (.bool _))
  rw [hu, show a.eval (.const (.pointer none)) = .pointer none from rfl, Sem.run_bind, run_eqGuard_ptr]
  simp only [binOp, Sem.run_bind, run_equal_ptr ht, Result.andThen_ok]
  rfl
theorem nilNeqP {F : Nat → Prop} {t e : TypeId} {x : Operand} {yt : TypeId} (ho : o.op = .binOp .neq t x (.const (.pointer none)) yt) (ht : P.underlying t = some (.pointer e)) {ad : Option Addr} (hu : a.eval x = .pointer ad) : Yld P w F bl mem a o (.bool (!ad.isNone)) := by
  refine Yld.of ho (do eqGuard .neq t x (.const (.pointer none)) (a.eval x) (a.eval (.const (.pointer none))); binOp .neq t (a.eval x) (a.eval (.const (.pointer none)))) rfl ?_ (.fz (.bool _))
  rw [hu, show a.eval (.const (.pointer none)) = .pointer none from rfl, Sem.run_bind, run_eqGuard_ptr]
  simp only [binOp, Sem.run_bind, run_equal_ptr ht, Result.andThen_ok]
  rfl
theorem pnilSound {t e : TypeId} {x : Operand} {yt : TypeId} {ng : Bool} {c : Prop} {v : AV} (ho : o.op = .binOp (bif ng then .neq else .eql) t x (.const (.pointer none)) yt) (ht : P.underlying t = some (.pointer e))
    (hv : ∀ k, VV w (Fr X w bl mem) bl mem (a.tmps.getD k undef) (env k)) (hs : (AI.pnil ng (Opd.of x)).val env mem = some (c, v)) (h : c) : Yld P w (Fr X w bl mem) bl mem a o v := by
  have hx := VV.opd hv x
  simp only [AI.val] at hs
  split at hs
  · rename_i id ver off e1
    split at hs <;> cases hs
    rename_i ver' cs hm
    subst h
    rw [e1] at hx
    obtain ⟨_, _, hinv⟩ := hx.ptr_inv
    obtain ⟨b, c, hb, hu⟩ := hinv _ hm
    cases ng
    · exact nilEqlP ho ht hu
    · exact nilNeqP ho ht hu
  · rename_i e1
    cases hs
    rw [e1] at hx
    have hu : a.eval x = .pointer none := by
      generalize a.eval x = u at hx
      cases hx; rename_i g; cases g; rfl
    cases ng
    · exact nilEqlP ho ht hu
    · exact nilNeqP ho ht hu
  · cases hs

theorem val2Sound {i : AI} {c : Prop} {v : AV} (hc : compV2 P o.op = some i) (hw : WS X Y w0 w bl mem) (hv : ∀ k, VV w (Fr X w bl mem) bl mem (a.tmps.getD k undef) (env k))
    (hs : i.val env mem = some (c, v)) (h : c) : Yld P w (Fr X w bl mem) bl mem a o v := by
  have hop := fun x => VV.opd hv x
  cases ho : o.op with
  | binOp op t x y yt =>
    rw [ho] at hc
    simp only [compV2] at hc
    have hx := hop x
    have hy := hop y
    split at hc
    · rename_i fs hut
      generalize hbb : (!P.stoodInHeld t && !P.eqGuardType P.depth t) = bb at hc
      cases bb with
      | false => cases hc
      | true =>
        simp only [Bool.and_eq_true, Bool.not_eq_true'] at hbb
        have hfo : P.fieldsOf t = fs := by unfold Program.fieldsOf; rw [hut]
        have main : ∀ (ks : List BK) (xs ys : List AV) (b : Bool), eqFlat P 0 fs.toList = some ks → (Opd.of x).ev env = .agg xs → (Opd.of y).ev env = .agg ys → eqCells ks xs ys = some b → ∃ us vs, a.eval x = .agg us ∧ a.eval y = .agg vs ∧ (Op.equalIn 10000 t (.agg us) (.agg vs)).run P w = .ok b w := fun ks xs ys b h1 h2 h3 h4 => by
          rw [h2] at hx; rw [h3] at hy
          obtain ⟨us, e1, hl1, hr1⟩ := hx.agg_inv
          obtain ⟨vs, e2, hl2, hr2⟩ := hy.agg_inv
          refine ⟨us, vs, e1, e2, ?_⟩
          rw [show (10000 : Nat) = 9998 + 1 + 1 from rfl, run_equalIn_struct w _ t us vs (by rw [hfo]; exact hut) hbb.1, hfo]
          exact eqFields_run hl1 hl2 hr1 hr2 9998 fs.toList 0 ks b h1 (by simpa using h4)
        simp only [cond_true] at hc
        split at hc <;> cases hc
        all_goals
          rename_i ks hks
          simp only [AI.val] at hs
          split at hs
          · rename_i xs ys e1 e2
            obtain ⟨b, h1, h2⟩ := Option.map_eq_some_iff.1 hs
            cases h2
            obtain ⟨us, vs, q1, q2, q3⟩ := main ks xs ys b hks e1 e2 h1
            refine Yld.of ho (do eqGuard _ t x y (a.eval x) (a.eval y); binOp _ t (a.eval x) (a.eval y)) rfl ?_ (.fz (.bool _))
            rw [q1, q2, Sem.run_bind, run_eqGuard_agg w _ t x y us vs hbb.2]
            simp only [Result.andThen_ok, run_eql_struct, run_neq_struct, q3]
          · cases hs
    · rename_i e hut
      split at hc <;> cases hc
      · exact pnilSound (ng := false) ho hut hv hs h
      · exact pnilSound (ng := true) ho hut hv hs h
    · cases hc
  | lookup t x i ok =>
    rw [ho] at hc
    simp only [compV2] at hc
    have hx := hop x
    have hi := hop i
    split at hc
    · rename_i kt et hut
      split at hc <;> cases hc
      rename_i d k hd hk
      simp only [AI.val] at hs
      split at hs
      · rename_i id ver kv e1 e2
        split at hs <;> cases hs
        rename_i ver' d' k' p g hm
        obtain ⟨rfl, rfl, rfl⟩ := h
        rw [e1] at hx
        obtain ⟨_, _, hinv⟩ := hx.mp_inv
        obtain ⟨b, c, hb, hu⟩ := hinv _ _ _ _ hm
        have hob := hw.obj id
        rw [hm, hb] at hob
        obtain ⟨b', c', es, clock, hl, hh, hrep⟩ := hob
        cases hl
        obtain ⟨hkv, hisk⟩ := keyV_sound hi e2
        have hck : (Instr.checkKey es.isEmpty 10000 kt kv).run P w = .ok () w := run_check hd hisk _
        have base : (Instr.lookup t (a.eval x) (a.eval i) ok).run P w = .ok (match ok with | true => .tuple #[elV k' (g kv), .bool (p kv)] | false => elV k' (g kv)) w := by
          rw [hu, hkv]
          rcases find_in (P := P) (w := w) hd hrep hisk with ⟨h1, h2, _⟩ | ⟨j, e, h1, h2, h3, h4, h5⟩
          · have hg0 : g kv = 0 := hrep.2.2.2.2 kv h2
            cases ok <;> simp [Instr.lookup, run_underlying hut, MapKept.run_getObj_map hh, hck, h1, ekOf_zero hk, hg0, h2]
          · cases ok <;> simp [Instr.lookup, run_underlying hut, MapKept.run_getObj_map hh, hck, h1, h5, h4]
        refine Yld.of ho (Instr.lookup t (a.eval x) (a.eval i) ok) rfl base ?_
        cases ok with
        | false => exact .fz (elV_sound _ _)
        | true => exact .fz (.tup _ _ rfl (fun j hj => by
            have hj2 : j = 0 ∨ j = 1 := by simp at hj; omega
            rcases hj2 with h | h <;> subst h
            · exact elV_sound _ _
            · exact .bool _))
      · cases hs
    · cases hc
  | call c0 =>
    rw [ho] at hc
    obtain ⟨callee, args, argTypes⟩ := c0
    simp only [compV2] at hc
    split at hc
    · obtain ⟨args⟩ := args
      obtain ⟨argTypes⟩ := argTypes
      rename_i x t h2 h3
      simp only at h2 h3
      subst h2; subst h3
      have hx := hop x
      split at hc <;> cases hc
      rename_i e ht
      simp only [AI.val] at hs
      split at hs
      · rename_i e1
        cases hs
        rw [e1] at hx
        have hu := hx.cap0_inv
        exact ⟨goInt 0, by simp [execOp, ho, resolve, invoke, builtin, hu, Builtin.cap_, run_underlying ht], .fz (.int _ _)⟩
      · cases hs
    · cases hc
  | _ => rw [ho] at hc; simp [compV2] at hc

theorem valXSound {i : AI} {c : Prop} {v : AV} (hc : compVX P o.op = some i) (hw : WS X Y w0 w bl mem) (hv : ∀ k, VV w (Fr X w bl mem) bl mem (a.tmps.getD k undef) (env k))
    (hs : i.val env mem = some (c, v)) (h : c) : Yld P w (Fr X w bl mem) bl mem a o v := by
  unfold compVX at hc
  split at hc
  · rename_i j hj
    cases hc
    exact valSound hj hw hv hs h
  · exact val2Sound hc hw hv hs h
end
end Go.Ab
