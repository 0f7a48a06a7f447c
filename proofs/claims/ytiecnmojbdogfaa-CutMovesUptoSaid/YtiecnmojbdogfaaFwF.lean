/- The instructions that write, and those that make memory: stores, variables, literals, make, append. -/
import Derived.Test.YtiecnmojbdogfaaFwA
import Derived.Laws.StructEq
set_option linter.unusedSimpArgs false
set_option linter.unusedVariables false
namespace Go.Ab
open Go
section
variable {P : Program} {X Y : Nat → Prop} {w0 w : World} {bl : Nat → Loc} {mem : Mem} {a : Act} {env : Env} {o : Oper}

theorem Yld.of {op : Op} (ho : o.op = op) {F : Nat → Prop} {v : AV} {u : Value} (s : Sem Value) (he : execOp a.eval { o with op := op } = (Bind.bind s fun x => Pure.pure (Next.value x))) (hr : s.run P w = .ok u w) (hu : VV w F bl mem u v) : Yld P w F bl mem a o v := by
  refine ⟨u, ?_, hu⟩
  have : execOp a.eval o = execOp a.eval { o with op := op } := by rw [← ho]
  rw [this, he]
  exact run_v hr

theorem run_bound {b : Option Operand} {d n : Int} {F : Nat → Prop} (hv : ∀ k, VV w F bl mem (a.tmps.getD k undef) (env k)) (h : bound env (b.map Opd.of) d = some n) :
    (∀ x, b = some x → ∃ k, a.eval x = .int k n) ∧ (b = none → n = d) := by
  cases b with
  | none => simp only [Option.map_none, bound, Option.some.injEq] at h; exact ⟨fun x hx => (by cases hx), fun _ => h.symm⟩
  | some x =>
    simp only [Option.map_some, bound] at h
    refine ⟨fun y hy => ?_, fun hh => (by cases hh)⟩
    cases hy
    have hx := VV.opd hv x
    split at h
    · rename_i k m he
      cases h
      rw [he] at hx
      exact ⟨k, hx.int_inv⟩
    · cases h

theorem sliceBounds_run {isS : Bool} {len cap : Nat} {lo hi : Option Operand} {l h : Int} {F : Nat → Prop} (hv : ∀ k, VV w F bl mem (a.tmps.getD k undef) (env k))
    (hl : bound env (lo.map Opd.of) 0 = some l) (hh : bound env (hi.map Opd.of) len = some h) (h0 : 0 ≤ l) (h1 : l ≤ h) (h2 : h ≤ cap) :
    (Instr.sliceBounds isS len cap (lo.map a.eval) (hi.map a.eval) none).run P w = .ok (l.toNat, h.toNat, cap) w := by
  obtain ⟨l1, l2⟩ := run_bound hv hl
  obtain ⟨g1, g2⟩ := run_bound hv hh
  have hcap : ((h.toNat : Nat) : Int) = h := by omega
  cases hi with
  | none =>
    have e := g2 rfl
    subst e
    cases lo with
    | none =>
      have e := l2 rfl
      subst e
      simp [Instr.sliceBounds]
    | some x =>
      obtain ⟨k, hk⟩ := l1 x rfl
      simp [Instr.sliceBounds, Instr.sliceBound, hk, asIntOf, h0, h1]
  | some y =>
    obtain ⟨k, hk⟩ := g1 y rfl
    have hh0 : 0 ≤ h := by omega
    cases lo with
    | none =>
      have e := l2 rfl
      subst e
      simp [Instr.sliceBounds, Instr.sliceBound, hk, asIntOf, hh0, h2]
    | some x =>
      obtain ⟨k', hk'⟩ := l1 x rfl
      have hlh : l ≤ max h 0 := by omega
      simp [Instr.sliceBounds, Instr.sliceBound, hk, hk', asIntOf, h0, hh0, h2, hlh]

theorem run_equal_bool {t : TypeId} {m n : Bool} (hut : P.underlying t = some .bool) : (Op.equal t (.bool m) (.bool n)).run P w = .ok (m == n) w := by
  have key : ∀ d, (Op.equalIn (d + 1) t (.bool m) (.bool n)).run P w = .ok (m == n) w := fun d => by simp [Op.equalIn, run_underlying hut]
  exact key 9999

theorem valSound {i : AI} {c : Prop} {v : AV} (hc : compV P o.op = some i) (hw : WS X Y w0 w bl mem) (hv : ∀ k, VV w (Fr X w bl mem) bl mem (a.tmps.getD k undef) (env k))
    (hs : i.val env mem = some (c, v)) (h : c) : Yld P w (Fr X w bl mem) bl mem a o v := by
  have hop := fun x => VV.opd hv x
  cases ho : o.op with
  | move x =>
    rw [ho] at hc; cases hc; cases hs
    exact ⟨a.eval x, by simp [execOp, ho], hop x⟩
  | assign x =>
    rw [ho] at hc; cases hc; cases hs
    exact ⟨a.eval x, by simp [execOp, ho], hop x⟩
  | nilCheck x =>
    rw [ho] at hc; cases hc
    have hx := hop x
    simp only [AI.val] at hs
    split at hs
    · rename_i id ver ofs he
      split at hs <;> cases hs
      rename_i ver' cs hm
      rw [he] at hx
      subst h
      obtain ⟨A, _, hh⟩ := hx.ptr_inv
      obtain ⟨b, c, _, hu⟩ := hh cs hm
      exact ⟨a.eval x, by simp [execOp, ho, hu], hx⟩
    · rename_i cs he
      cases hs
      rw [he] at hx
      obtain ⟨ad, val, hu, _⟩ := (read_sound hw hx).2.2 cs rfl
      exact ⟨a.eval x, by simp [execOp, ho, hu], hx⟩
    · rename_i f cs he
      cases hs
      rw [he] at hx
      obtain ⟨vs, hu, _⟩ := hx.fn_inv
      exact ⟨a.eval x, by simp [execOp, ho, hu], hx⟩
    · cases hs
  | pick c' x y =>
    rw [ho] at hc; cases hc
    have hx := hop c'
    simp only [AI.val] at hs
    split at hs <;> cases hs
    rename_i b he
    rw [he] at hx
    have hu := hx.bool_inv
    cases b with
    | true => exact ⟨a.eval x, by simp [execOp, ho, hu, asBool], hop x⟩
    | false => exact ⟨a.eval y, by simp [execOp, ho, hu, asBool], hop y⟩
  | binOp op t x y yt =>
    rw [ho] at hc
    simp only [compV] at hc
    have hx := hop x
    have hy := hop y
    split at hc
    · cases hc
      simp only [AI.val] at hs
      split at hs
      · rename_i k m k' n e1 e2
        rw [e1] at hx; rw [e2] at hy
        obtain ⟨u, hr, hf⟩ := run_binI (P := P) (w := w) (F := Fr X w bl mem) t hs h
        refine Yld.of ho (do eqGuard op t x y (a.eval x) (a.eval y); binOp op t (a.eval x) (a.eval y)) rfl ?_ (.fz hf)
        rw [hx.int_inv, hy.int_inv, Sem.run_bind, run_eqGuard_int]
        exact hr
      · cases hs
    · cases hc
      simp only [AI.val] at hs
      split at hs
      · rename_i m n e1 e2
        rw [e1] at hx; rw [e2] at hy
        obtain ⟨u, hr, hf⟩ := run_binS (P := P) (w := w) (F := Fr X w bl mem) t hs h
        refine Yld.of ho (do eqGuard op t x y (a.eval x) (a.eval y); binOp op t (a.eval x) (a.eval y)) rfl ?_ (.fz hf)
        rw [hx.str_inv, hy.str_inv, Sem.run_bind, run_eqGuard_str]
        exact hr
      · cases hs
    · rename_i hut
      cases op <;> simp only [] at hc <;> cases hc
      all_goals
        simp only [AI.val] at hs
        split at hs
        · rename_i m n e1 e2
          cases hs
          rw [e1] at hx; rw [e2] at hy
          refine Yld.of ho (do eqGuard _ t x y (a.eval x) (a.eval y); binOp _ t (a.eval x) (a.eval y)) rfl ?_ (.fz (.bool _))
          rw [hx.bool_inv, hy.bool_inv, Sem.run_bind, run_eqGuard_bool]
          simp only [binOp, Sem.run_bind, run_equal_bool hut, Result.andThen_ok]
          rfl
        · cases hs
    · cases hc
  | unOp op t x =>
    rw [ho] at hc
    have hx := hop x
    cases op <;> simp only [compV] at hc <;> cases hc
    all_goals
      simp only [AI.val] at hs
      split at hs
      · rename_i e1
        cases hs
        rw [e1] at hx
        first
          | (refine Yld.of ho (Op.unary _ (a.eval x)) rfl ?_ (.fz (.bool _)); rw [hx.bool_inv]; simp [Op.unary]; done)
          | (refine Yld.of ho (Op.unary _ (a.eval x)) rfl ?_ (.fz (.int _ _)); rw [hx.int_inv]; simp [Op.unary, Op.intArith]; done)
          | (refine Yld.of ho (Op.unary _ (a.eval x)) rfl ?_ (.fz (.int _ _)); rw [hx.int_inv]; simp [Op.unary, Op.intBits, bitop]; done)
      · cases hs
  | convert s d x =>
    rw [ho] at hc
    have hx := hop x
    simp only [compV] at hc
    split at hc <;> cases hc
    rename_i ks k h1 h2
    simp only [AI.val] at hs
    split at hs
    · rename_i k0 m e1
      cases hs
      rw [e1] at hx
      refine Yld.of ho (convert s d (a.eval x)) rfl ?_ (.fz (.int _ _))
      rw [hx.int_inv]
      simp [convert, run_underlying h1, run_underlying h2, Conv.intToInt]
    · cases hs
  | fieldAddr s x f =>
    rw [ho] at hc
    have hx := hop x
    simp only [compV] at hc
    split at hc
    · rename_i fd hf
      split at hc <;> cases hc
      rename_i n hn
      simp only [AI.val] at hs
      split at hs
      · rename_i id ver ofs e1
        split at hs <;> cases hs
        rename_i ver' cs hm
        subst h
        rw [e1] at hx
        obtain ⟨A, _, hh⟩ := hx.ptr_inv
        obtain ⟨b, c, hb, hu⟩ := hh cs hm
        refine Yld.of ho (Instr.fieldAt s (a.eval x) f) rfl (by rw [hu]; exact run_fieldAt hf hn _) ?_
        rw [add_lit]
        exact .ptr _ id ver _ hx.ptr_le (fun cs' _ => ⟨b, c, hb, rfl⟩)
      · rename_i id ver j ofs e1
        split at hs <;> cases hs
        rename_i ver' e sz m g hm
        subst h
        rw [e1] at hx
        obtain ⟨A, _, hh⟩ := hx.rp_inv
        obtain ⟨b, c, hb, hi, hu⟩ := hh e sz m g hm
        refine Yld.of ho (Instr.fieldAt s (a.eval x) f) rfl (by rw [hu]; exact run_fieldAt hf hn _) ?_
        rw [add_lit, Nat.add_assoc]
        refine .rp _ id ver j _ hx.rp_le (fun e' sz' m' f' hm' => ?_)
        rw [hm] at hm'
        cases hm'
        exact ⟨b, c, hb, hi, rfl⟩
      · rename_i cs e1
        cases hs
        rw [e1] at hx
        have hq := hx.fp_inv
        have hq' : ∃ u, a.eval x = u := ⟨_, rfl⟩
        obtain ⟨u, hu⟩ := hq'
        rw [hu] at hq
        cases hq with
          | fp ad _ val hb hval hr =>
            refine Yld.of ho (Instr.fieldAt s (a.eval x) f) rfl (by rw [hu]; exact run_fieldAt hf hn _) (.fz ?_)
            refine .fp _ _ (fun j => val (fd.offset + j)) (by rw [add_block]; exact hb) (fun j hj => ?_) (fun j hj => ?_)
            · rw [add_add]; exact hval _ (by simp at hj; omega)
            · rw [getD_drop]; exact hr _ (by simp at hj; omega)
      · simp only [fldV] at hs
        split at hs
        · rename_i id ver j ofs e1
          split at hs <;> cases hs
          rename_i ver' e sz m g hm
          subst h
          rw [e1] at hx
          obtain ⟨A, _, hh⟩ := hx.vp_inv
          obtain ⟨b, c, hb, hi, hu⟩ := hh e sz m g hm
          refine Yld.of ho (Instr.fieldAt s (a.eval x) f) rfl (by rw [hu]; exact run_fieldAt hf hn _) ?_
          rw [add_lit, Nat.add_assoc]
          refine .vp _ id ver j _ hx.vp_le (fun e' sz' m' f' hm' => ?_)
          rw [hm] at hm'
          cases hm'
          exact ⟨b, c, hb, hi, rfl⟩
        · cases hs
    · cases hc
  | indexAddr t x ix =>
    rw [ho] at hc
    have hx := hop x
    have hi := hop ix
    simp only [compV] at hc
    split at hc
    · rename_i e ht
      split at hc <;> cases hc
      rename_i sz hsz
      obtain ⟨ti, hti, htin⟩ := Option.map_eq_some_iff.1 hsz
      simp only [AI.val] at hs
      split at hs
      · rename_i n f k j e1 e2
        cases hs
        obtain ⟨h1, h2, h3⟩ := h
        rw [e1] at hx; rw [e2] at hi
        have hxf := hx.fs_inv
        have hq' : ∃ u, a.eval x = u := ⟨_, rfl⟩
        obtain ⟨u, hu⟩ := hq'
        rw [hu] at hxf
        cases hxf with
        | fs0 _ c _ => omega
        | fs ad _ c sz' _ val hb hcap hszp hl hval hr =>
          have hj : j.toNat < n := by omega
          have hszz : sz' = sz := by rw [← hl _ hj]; exact h3
          subst hszz
          refine Yld.of ho (Instr.indexAt t (a.eval x) (a.eval ix)) rfl (u := .pointer (some (ad.add (j.toNat * sz')))) ?_ (.fz ?_)
          · rw [hu, hi.int_inv]
            simp [Instr.indexAt, run_underlying ht, asIntOf, sizeOf, typeInfo, hti, htin, h1, h2]
          · refine .fp _ _ (fun q => val j.toNat q) (by rw [add_block]; exact hb) (fun q hq => ?_) (fun q hq => ?_)
            · rw [add_add]; exact hval _ _ hj (by rw [hl _ hj] at hq; exact hq)
            · exact hr _ _ hj (by rw [hl _ hj] at hq; exact hq)
      · rename_i id ver n k j e1 e2
        rw [e1] at hx; rw [e2] at hi
        split at hs
        · rename_i ver' e' sz' m f hm
          generalize hb : Nat.beq sz' sz = bb at hs
          cases bb with
          | false => cases hs
          | true =>
            cases hs
            have := Nat.eq_of_beq_eq_true hb
            subst this
            obtain ⟨h0, h1, h2⟩ := h
            subst h0
            obtain ⟨_, _, _, _, hh⟩ := hx.sl_inv
            obtain ⟨hle, hu⟩ := hh _ _ _ _ hm
            have hob := hw.obj id
            rw [hm] at hob
            obtain ⟨hz, xs, hown, hr⟩ := hob
            cases hloc : bl id with
            | none =>
              rw [hloc] at hown
              rcases hown.2 with ⟨_, hn0⟩ | ⟨_, _, _, hv', _⟩
              · omega
              · simp [slv] at hv'
            | blk b c =>
              rw [hloc] at hu
              refine Yld.of ho (Instr.indexAt t (a.eval x) (a.eval ix)) rfl (u := .pointer (some ⟨b, j.toNat * sz', none⟩)) ?_ ?_
              · rw [hu, hi.int_inv]
                simp [slv, Instr.indexAt, run_underlying ht, asIntOf, sizeOf, typeInfo, hti, htin, h1, h2, add_lit]
              · refine VV.rp _ id ver j.toNat 0 (by rw [hm]; exact Nat.le_refl _) (fun e2 sz2 m2 f2 hm2 => ?_)
                rw [hm] at hm2
                cases hm2
                exact ⟨b, c, hloc, by omega, by simp⟩
        · cases hs
      · simp only [idxV] at hs
        split at hs
        · rename_i k j e2
          rw [e2] at hi
          split at hs
          · rename_i id ver n e1
            rw [e1] at hx
            split at hs
            · rename_i ver' e' sz' m f hm
              generalize hb : Nat.beq sz' sz = bb at hs
              cases bb with
              | false => cases hs
              | true =>
                cases hs
                have := Nat.eq_of_beq_eq_true hb
                subst this
                obtain ⟨h0, h1, h2⟩ := h
                subst h0
                obtain ⟨_, _, _, _, hh⟩ := hx.vs_inv
                obtain ⟨hle, hu⟩ := hh _ _ _ _ hm
                have hob := hw.obj id
                rw [hm] at hob
                obtain ⟨hz, xs, hown, hr⟩ := hob
                cases hloc : bl id with
                | none =>
                  rw [hloc] at hown
                  rcases hown.2 with ⟨_, hn0⟩ | ⟨_, _, _, hv', _⟩
                  · omega
                  · simp [slv] at hv'
                | blk b c =>
                  rw [hloc] at hu
                  refine Yld.of ho (Instr.indexAt t (a.eval x) (a.eval ix)) rfl (u := .pointer (some ⟨b, j.toNat * sz', none⟩)) ?_ ?_
                  · rw [hu, hi.int_inv]
                    simp [slv, Instr.indexAt, run_underlying ht, asIntOf, sizeOf, typeInfo, hti, htin, h1, h2, add_lit]
                  · refine VV.vp _ id ver j.toNat 0 (by rw [hm]; exact Nat.le_refl _) (fun e2 sz2 m2 f2 hm2 => ?_)
                    rw [hm] at hm2
                    cases hm2
                    exact ⟨b, c, hloc, by omega, by simp⟩
            · cases hs
          · cases hs
        · cases hs
    · rename_i len e ht
      split at hc <;> cases hc
      rename_i sz hsz
      simp only [AI.val, aidxV] at hs
      split at hs
      · rename_i k j e2
        rw [e2] at hi
        split at hs
        · rename_i id ver ofs e1
          rw [e1] at hx
          split at hs <;> cases hs
          rename_i ver' cs hm
          obtain ⟨h0, h1, h2⟩ := h
          subst h0
          obtain ⟨A, _, hh⟩ := hx.ptr_inv
          obtain ⟨b, c, hb, hu⟩ := hh cs hm
          refine Yld.of ho (Instr.indexAt t (a.eval x) (a.eval ix)) rfl (by rw [hu, hi.int_inv]; exact run_arrAt ht hsz _ k j h1 h2) ?_
          rw [add_lit]
          exact .ptr _ id ver _ hx.ptr_le (fun cs' _ => ⟨b, c, hb, rfl⟩)
        · rename_i id ver q ofs e1
          rw [e1] at hx
          split at hs <;> cases hs
          rename_i ver' e0 sz0 m g hm
          obtain ⟨h0, h1, h2⟩ := h
          subst h0
          obtain ⟨A, _, hh⟩ := hx.rp_inv
          obtain ⟨b, c, hb, hiq, hu⟩ := hh e0 sz0 m g hm
          refine Yld.of ho (Instr.indexAt t (a.eval x) (a.eval ix)) rfl (by rw [hu, hi.int_inv]; exact run_arrAt ht hsz _ k j h1 h2) ?_
          rw [add_lit, Nat.add_assoc]
          refine .rp _ id ver q _ hx.rp_le (fun e' sz' m' f' hm' => ?_)
          rw [hm] at hm'
          cases hm'
          exact ⟨b, c, hb, hiq, rfl⟩
        · rename_i cs e1
          rw [e1] at hx
          cases hs
          obtain ⟨h1, h2⟩ := h
          have hq := hx.fp_inv
          have hq' : ∃ u, a.eval x = u := ⟨_, rfl⟩
          obtain ⟨u, hu⟩ := hq'
          rw [hu] at hq
          cases hq with
            | fp ad _ val hb hval hr =>
              refine Yld.of ho (Instr.indexAt t (a.eval x) (a.eval ix)) rfl (by rw [hu, hi.int_inv]; exact run_arrAt ht hsz _ k j h1 h2) (.fz ?_)
              refine .fp _ _ (fun q => val (j.toNat * sz + q)) (by rw [add_block]; exact hb) (fun q hq => ?_) (fun q hq => ?_)
              · rw [add_add]; exact hval _ (by simp at hq; omega)
              · rw [getD_drop]; exact hr _ (by simp at hq; omega)
        · cases hs
      · cases hs
    · cases hc
  | index t x ix =>
    rw [ho] at hc
    have hx := hop x
    have hi := hop ix
    simp only [compV] at hc
    split at hc
    rotate_left
    · rename_i ln e ht
      have arr : ∀ {te : TypeId}, P.underlying e = some (.bool) ∨ (∃ k, P.underlying e = some (.int k)) → tsize P e = some 1 → (AI.avx ln (Opd.of x) (Opd.of ix)).val env mem = some (c, v) → Yld P w (Fr X w bl mem) bl mem a o v := fun {te} hu hsz hs => by
        simp only [AI.val] at hs
        split at hs <;> cases hs
        rename_i cs k j e1 e2
        rw [e1] at hx; rw [e2] at hi
        obtain ⟨h1, h2, h3⟩ := h
        obtain ⟨vs, hv, hl, hr⟩ := hx.agg_inv
        have hlt : j.toNat < vs.size := by omega
        refine Yld.of ho (Instr.index t (a.eval x) (a.eval ix)) rfl (u := vs.getD j.toNat undef) ?_ (hr _ (by omega))
        obtain ⟨ie, hie, hsi⟩ := Option.map_eq_some_iff.1 hsz
        have hgv : vs[j.toNat]? = some (vs.getD j.toNat undef) := by
          rw [Array.getD_eq_getD_getElem?, Array.getElem?_eq_getElem hlt]; rfl
        rw [hv, hi.int_inv]
        generalize vs.getD j.toNat undef = u0 at hgv ⊢
        rcases hu with hu | ⟨kk, hu⟩ <;> simp [Instr.index, asIntOf, run_underlying ht, run_underlying hu, part, isAgg, sizeOf, typeInfo, hie, hsi, h1, h2, hgv]
      split at hc
      · rename_i hu hsz
        cases hc
        exact arr (te := e) (.inl hu) hsz hs
      · rename_i kk hu hsz
        cases hc
        exact arr (te := e) (.inr ⟨_, hu⟩) hsz hs
      · cases hc
    · cases hc
    rename_i ht
    cases hc
    simp only [AI.val] at hs
    split at hs <;> cases hs
    rename_i s k j e1 e2
    rw [e1] at hx; rw [e2] at hi
    obtain ⟨h1, h2⟩ := h
    have hlt : j.toNat < s.data.size := by have : s.size = s.data.size := rfl; omega
    have hget : s[j.toNat]? = some (s.data.toList.getD j.toNat 0) := by
      have hlt' : j.toNat < s.size := hlt
      rw [getElem?_pos s j.toNat hlt']
      congr 1
      rw [List.getD_eq_getElem?_getD, List.getElem?_eq_getElem (by simpa using hlt), Option.getD_some, Array.getElem_toList]
      rfl
    refine Yld.of ho (Instr.index t (a.eval x) (a.eval ix)) rfl ?_ (.fz (.int _ _))
    rw [hx.str_inv, hi.int_inv]
    simp [Instr.index, asIntOf, run_underlying ht, h1, hget]
  | load t x =>
    rw [ho] at hc
    have hx := hop x
    simp only [compV] at hc
    split at hc <;> cases hc
    rename_i d n hu hn
    simp only [AI.val] at hs
    have key := read_sound hw hx
    have fin : ∀ (cs : List AV) (ad : Addr) (val : Nat → Value), a.eval x = .pointer (some ad) → (∀ j, j < cs.length → w.cell? (ad.add j) = some (val j)) → (∀ j, j < cs.length → VV w (Fr X w bl mem) bl mem (val j) (cs.getD j .undef)) → part? n (aggT P t) cs = some v → Yld P w (Fr X w bl mem) bl mem a o v := fun cs ad val e1 e2 e3 e4 => by
      obtain ⟨u, hr, hvv⟩ := run_loadVar_cells hu hn e4 e2 e3
      exact Yld.of ho (Instr.loadAt t (a.eval x)) rfl (by rw [e1]; simpa [Instr.loadAt, Instr.sureAddr] using hr) hvv
    split at hs
    · rename_i id ver ofs e1
      split at hs
      · rename_i ver' cs hm
        obtain ⟨v', hp, hh⟩ := Option.map_eq_some_iff.1 hs
        cases hh
        subst h
        obtain ⟨ad, val, g1, g2, g3⟩ := key.1 id ver ofs cs e1 hm
        exact fin _ ad val g1 g2 g3 hp
      · cases hs
    · rename_i id ver j ofs e1
      split at hs
      · rename_i ver' e sz m f hm
        obtain ⟨v', hp, hh⟩ := Option.map_eq_some_iff.1 hs
        cases hh
        obtain ⟨h0, h⟩ := h
        subst h0
        obtain ⟨ad, val, g1, g2, g3⟩ := key.2.1 id ver j ofs e sz m f e1 hm h
        exact fin _ ad val g1 g2 g3 hp
      · cases hs
    · rename_i cs e1
      obtain ⟨v', hp, hh⟩ := Option.map_eq_some_iff.1 hs
      cases hh
      obtain ⟨ad, val, g1, g2, g3⟩ := key.2.2 cs e1
      exact fin _ ad val g1 g2 g3 hp
    · simp only [loadV] at hs
      split at hs
      · rename_i id ver j ofs e1
        split at hs
        · rename_i ver' e sz m f hm
          obtain ⟨v', hp, hh⟩ := Option.map_eq_some_iff.1 hs
          cases hh
          obtain ⟨h0, h⟩ := h
          subst h0
          obtain ⟨ad, val, g1, g2, g3⟩ := read_soundV hw hx id ver j ofs e sz m f e1 hm h
          exact fin _ ad val g1 g2 g3 hp
        · cases hs
      · cases hs
  | field t x f =>
    rw [ho] at hc
    have hx := hop x
    simp only [compV] at hc
    split at hc
    · rename_i fd hf
      split at hc <;> cases hc
      rename_i d n hu hn
      simp only [AI.val] at hs
      split at hs
      · rename_i cs e1
        obtain ⟨v', hp, hh⟩ := Option.map_eq_some_iff.1 hs
        cases hh
        rw [e1] at hx
        obtain ⟨vs, hxu, hl, hr⟩ := hx.agg_inv
        obtain ⟨u, hrun, hvv⟩ := run_part hu hn hl hr hp
        refine Yld.of ho (Instr.field t (a.eval x) f) rfl ?_ hvv
        unfold fieldOf at hf
        split at hf
        · rename_i fs hfs
          rw [hxu]
          simpa [Instr.field, run_underlying hfs, hf, asAgg] using hrun
        · cases hf
      · cases hs
    · cases hc
  | extract x ix =>
    rw [ho] at hc; cases hc
    have hx := hop x
    simp only [AI.val] at hs
    split at hs
    · rename_i vs e1
      split at hs <;> cases hs
      rename_i v' hvx
      rw [e1] at hx
      obtain ⟨us, hxu, hl, hr⟩ := hx.tup_inv
      have hlt : ix < vs.length := (List.getElem?_eq_some_iff.1 hvx).1
      have := hr ix hlt
      rw [show vs.getD ix .undef = v by simp [List.getD_eq_getElem?_getD, hvx]] at this
      refine Yld.of ho (Instr.extract (a.eval x) ix) rfl ?_ this
      rw [hxu]
      have hlt' : ix < us.size := by omega
      simp [Instr.extract, hlt']
    · cases hs
  | build t parts =>
    rw [ho] at hc
    simp only [compV] at hc
    split at hc
    · rename_i it fs hit hut
      split at hc
      · rename_i z places hz hpl
        obtain ⟨ps, hps, hh⟩ := Option.map_eq_some_iff.1 hc
        cases hh
        simp only [AI.val] at hs
        obtain ⟨cs, hcs, hh⟩ := Option.map_eq_some_iff.1 hs
        cases hh
        obtain ⟨cells', e1, e2, e3⟩ := fill_sound places hv parts.toList ps z.cells (cvl z) cs hps (by simp [cvl]) (cvl_sound z) hcs
        refine Yld.of ho (Instr.build t (parts.map fun (i, x) => (i, a.eval x))) rfl ?_ (.agg cells' cs e2 e3)
        refine run_build w t _ cells' ?_
        simp only [Program.built, hit, hut, hz, hpl]
        simpa using e1
      · cases hc
    · rename_i it len e hit hut
      split at hc
      · rename_i z ie hz hie
        cases hc
        simp only [AI.val] at hs
        obtain ⟨cs, hcs, hh⟩ := Option.map_eq_some_iff.1 hs
        cases hh
        obtain ⟨cells', e1, e2, e3⟩ := fill_soundA ie.size hv parts.toList _ z.cells (cvl z) cs rfl (by simp [cvl]) (cvl_sound z) hcs
        refine Yld.of ho (Instr.build t (parts.map fun (i, x) => (i, a.eval x))) rfl ?_ (.agg cells' cs e2 e3)
        refine run_build w t _ cells' ?_
        simp only [Program.built, hit, hut, hz, hie]
        simpa using e1
      · cases hc
    · cases hc
  | makeFunc fn first caps =>
    rw [ho] at hc
    cases fn with
    | func f =>
      simp only [compV] at hc
      cases hb : Nat.beq first.size 0 with
      | false => rw [hb] at hc; cases hc
      | true =>
        rw [hb] at hc
        cases hc
        cases hs
        have hf0 : first = #[] := by have := Nat.eq_of_beq_eq_true hb; exact Array.eq_empty_of_size_eq_zero this
        subst hf0
        refine Yld.of ho (Instr.makeFunc (.func f) (#[].map a.eval) (caps.map a.eval)) rfl (u := .func (.func f) #[] (caps.map a.eval)) (by simp [Instr.makeFunc]) ?_
        refine .fn f _ _ (by simp) (fun j hj => ?_)
        have hj' : j < caps.size := by simpa using hj
        have := hop caps[j]
        simpa [List.getD_eq_getElem?_getD, hj'] using this
    | _ => simp [compV] at hc
  | slice t x lo hi mx =>
    rw [ho] at hc
    have hx := hop x
    cases mx with
    | some m => simp [compV] at hc
    | none =>
      simp only [compV] at hc
      split at hc
      · rename_i e ht
        split at hc <;> cases hc
        rename_i sz hsz
        obtain ⟨ti, hti, htin⟩ := Option.map_eq_some_iff.1 hsz
        simp only [AI.val] at hs
        split at hs
        · rename_i n f e1
          split at hs <;> cases hs
          rename_i l hh hl hhi
          obtain ⟨h1, h2, h3, h4⟩ := h
          rw [e1] at hx
          have hxf := hx.fs_inv
          have hq' : ∃ u, a.eval x = u := ⟨_, rfl⟩
          obtain ⟨u, hu⟩ := hq'
          rw [hu] at hxf
          have hlen : (hh - l).toNat = hh.toNat - l.toNat := by omega
          cases hxf with
          | fs0 ad c _ =>
            have hsb := sliceBounds_run (P := P) (isS := true) (len := 0) (cap := c) hv hl hhi h1 h2 (by omega)
            have e0 : (hh - l).toNat = 0 := by omega
            refine Yld.of ho (Instr.sliceAt t (a.eval x) (lo.map a.eval) (hi.map a.eval) none) rfl (u := .slice (if c = l.toNat then ad else ad.map (·.add (l.toNat * sz))) (hh.toNat - l.toNat) (c - l.toNat)) ?_ (.fz ?_)
            · rw [hu]
              simp [Instr.sliceAt, Instr.slice, run_underlying ht, hsb, sizeOf, typeInfo, hti, htin]
            · rw [← hlen, e0]; exact .fs0 _ _ _
          | fs ad _ c sz' _ val hb hcap hszp hlz hval hr =>
            have hsb := sliceBounds_run (P := P) (isS := true) (len := n) (cap := c) hv hl hhi h1 h2 (by omega)
            refine Yld.of ho (Instr.sliceAt t (a.eval x) (lo.map a.eval) (hi.map a.eval) none) rfl (u := .slice (if c = l.toNat then some ad else some (ad.add (l.toNat * sz))) (hh.toNat - l.toNat) (c - l.toNat)) ?_ (.fz ?_)
            · rw [hu]
              simp [Instr.sliceAt, Instr.slice, run_underlying ht, hsb, sizeOf, typeInfo, hti, htin]
            · rw [hlen]
              rcases Nat.eq_zero_or_pos (hh.toNat - l.toNat) with e0 | e0
              · rw [e0]; exact .fs0 _ _ _
              · have hne : ¬ c = l.toNat := by omega
                rw [if_neg hne]
                have hszz : sz' = sz := by rw [← hlz l.toNat (by omega)]; exact h4 (by omega)
                subst hszz
                refine .fs _ _ _ sz' _ (fun i j => val (l.toNat + i) j) (by rw [add_block]; exact hb) (by omega) hszp (fun i hi => hlz _ (by omega)) (fun i j hi hj => ?_) (fun i j hi hj => hr _ _ (by omega) hj)
                rw [add_add, ← Nat.add_assoc, ← Nat.add_mul]
                exact hval _ _ (by omega) hj
        · rename_i id ver n e1
          split at hs
          · rename_i ver' e' sz' m f hm
            generalize slcO (lo.map Opd.of) = bb at hs
            rw [e1] at hx
            obtain ⟨_, _, _, _, hinv⟩ := hx.sl_inv
            cases bb
            case true =>
              simp only [cond_true] at hs
              split at hs <;> cases hs
              rename_i l hh hl hhi
              obtain ⟨h0, hs0, h1, h2, h3⟩ := h
              subst h0
              subst hs0
              obtain ⟨hle, hu⟩ := hinv _ _ _ _ hm
              have hob := hw.obj id
              rw [hm] at hob
              obtain ⟨hz, xs, hown, hr⟩ := hob
              have hlen : (hh - l).toNat = hh.toNat - l.toNat := by omega
              cases hloc : bl id with
              | none =>
                rw [hloc] at hu hown
                have hn0 : m = 0 := by
                  rcases hown.2 with ⟨_, g⟩ | ⟨_, _, _, hv', _⟩
                  · exact g
                  · simp [slv] at hv'
                have hsb := sliceBounds_run (P := P) (isS := true) (len := 0) (cap := 0) hv hl (by rw [← hhi]; congr 1; omega) h1 h2 (by omega)
                refine Yld.of ho (Instr.sliceAt t (a.eval x) (lo.map a.eval) (hi.map a.eval) none) rfl (u := .slice none (hh.toNat - l.toNat) (0 - l.toNat)) ?_ (.sk _ _ _ id ver _ _ (by rw [hm]; exact Nat.le_refl _) (fun e2 sz2 m2 f2 hm2 => ?_))
                · rw [hu]
                  simp [slv, Instr.sliceAt, Instr.slice, run_underlying ht, hsb, sizeOf, typeInfo, hti, htin]
                · rw [hm] at hm2
                  cases hm2
                  exact ⟨by omega, by omega, fun h0 => by omega⟩
              | blk b c =>
                rw [hloc] at hu hown
                have hmc : m ≤ c := by
                  rcases hown.2 with ⟨hv', _⟩ | ⟨_, _, _, hv', _, _, g, _⟩
                  · simp [slv] at hv'
                  · simp [slv] at hv'; omega
                have hsb := sliceBounds_run (P := P) (isS := true) (len := n) (cap := c) hv hl hhi h1 h2 (by omega)
                refine Yld.of ho (Instr.sliceAt t (a.eval x) (lo.map a.eval) (hi.map a.eval) none) rfl (u := .slice (if c = l.toNat then some ⟨b, 0, none⟩ else some ((⟨b, 0, none⟩ : Addr).add (l.toNat * sz'))) (hh.toNat - l.toNat) (c - l.toNat)) ?_ (.sk _ _ _ id ver _ _ (by rw [hm]; exact Nat.le_refl _) (fun e2 sz2 m2 f2 hm2 => ?_))
                · rw [hu]
                  simp [slv, Instr.sliceAt, Instr.slice, run_underlying ht, hsb, sizeOf, typeInfo, hti, htin]
                · rw [hm] at hm2
                  cases hm2
                  refine ⟨by omega, by omega, fun h0 => ⟨b, c, hloc, ?_⟩⟩
                  rw [if_neg (by omega)]
                  simp [Addr.add, eq_comm]
            simp only [cond_false] at hs
            split at hs <;> cases hs
            rename_i hh hl hhi
            obtain ⟨h0, h1, h2⟩ := h
            subst h0
            obtain ⟨hle, hu⟩ := hinv _ _ _ _ hm
            have hob := hw.obj id
            rw [hm] at hob
            obtain ⟨hz, xs, hown, hr⟩ := hob
            have fin : ∀ u, (Instr.sliceAt t (a.eval x) (lo.map a.eval) (hi.map a.eval) none).run P w = .ok u w → u = slv (bl id) hh.toNat → Yld P w (Fr X w bl mem) bl mem a o (.sl id ver hh.toNat) := fun u hr hu' => by
              have hform : ∃ A k c, u = .slice A k c := by rw [hu']; cases bl id <;> exact ⟨_, _, _, rfl⟩
              obtain ⟨A, k, c, rfl⟩ := hform
              refine Yld.of ho (Instr.sliceAt t (a.eval x) (lo.map a.eval) (hi.map a.eval) none) rfl hr (.sl _ _ _ id ver _ (by rw [hm]; exact Nat.le_refl _) (fun e2 sz2 m2 f2 hm2 => ?_))
              rw [hm] at hm2
              cases hm2
              exact ⟨by omega, hu'⟩
            cases hloc : bl id with
            | none =>
              rw [hloc] at hu hown
              have hn0 : m = 0 := by
                rcases hown.2 with ⟨_, g⟩ | ⟨_, _, _, hv', _⟩
                · exact g
                · simp [slv] at hv'
              have hsb := sliceBounds_run (P := P) (isS := true) (len := 0) (cap := 0) hv hl (by rw [← hhi]; congr 1; omega) (Int.le_refl _) h1 (by omega)
              have hh0 : hh.toNat = 0 := by omega
              refine fin (.slice none 0 0) ?_ (by rw [hloc]; rfl)
              rw [hu]
              simp [slv, Instr.sliceAt, Instr.slice, run_underlying ht, hsb, sizeOf, typeInfo, hti, htin, hh0]
            | blk b c =>
              rw [hloc] at hu hown
              have hmc : m ≤ c := by
                rcases hown.2 with ⟨hv', _⟩ | ⟨_, _, _, hv', _, _, g, _⟩
                · simp [slv] at hv'
                · simp [slv] at hv'; omega
              have hsb := sliceBounds_run (P := P) (isS := true) (len := n) (cap := c) hv hl hhi (Int.le_refl _) h1 (by omega)
              refine fin (slv (bl id) hh.toNat) ?_ rfl
              rw [hu, hloc]
              simp [slv, Instr.sliceAt, Instr.slice, run_underlying ht, hsb, sizeOf, typeInfo, hti, htin, add_zero]
          · cases hs
        · rename_i e1
          split at hs <;> cases hs
          rename_i l hh hl hhi
          obtain ⟨rfl, rfl⟩ := h
          rw [e1] at hx
          have hu := hx.cap0_inv
          have hsb := sliceBounds_run (P := P) (isS := true) (len := 0) (cap := 0) hv hl hhi (Int.le_refl _) (Int.le_refl _) (by omega)
          refine Yld.of ho (Instr.sliceAt t (a.eval x) (lo.map a.eval) (hi.map a.eval) none) rfl (u := .slice none 0 0) ?_ (.fz .cap0)
          rw [hu]
          simp [Instr.sliceAt, Instr.slice, run_underlying ht, hsb, sizeOf, typeInfo, hti, htin, add_zero]
        · cases hs
      · rename_i ht
        cases hc
        simp only [AI.val] at hs
        split at hs
        · rename_i s e1
          split at hs <;> cases hs
          rename_i l hh hl hhi
          obtain ⟨h1, h2, h3⟩ := h
          rw [e1] at hx
          have hsb := sliceBounds_run (P := P) (isS := false) (len := s.size) (cap := s.size) hv hl hhi h1 h2 h3
          refine Yld.of ho (Instr.sliceAt t (a.eval x) (lo.map a.eval) (hi.map a.eval) none) rfl ?_ (.fz (.str _))
          rw [hx.str_inv]
          simp [Instr.sliceAt, Instr.slice, run_underlying ht, hsb]
        · cases hs
      · cases hc
  | call c =>
    rw [ho] at hc
    obtain ⟨callee, args, argTypes⟩ := c
    simp only [compV] at hc
    split at hc
    · rename_i b
      obtain ⟨args⟩ := args
      obtain ⟨argTypes⟩ := argTypes
      simp only at hc
      unfold compB at hc
      split at hc
      · rename_i x t
        have hx := hop x
        split at hc <;> cases hc
        · rename_i e ht
          have fin : ∀ (ad : Option Addr) (n c : Nat), a.eval x = .slice ad n c → v = .int .i64 n → Yld P w (Fr X w bl mem) bl mem a o v := fun ad n c hu hv' =>
            ⟨goInt n, by simp [execOp, ho, resolve, invoke, builtin, hu, Builtin.len_, run_underlying ht], by rw [hv']; exact .fz (.int _ _)⟩
          simp only [AI.val] at hs
          split at hs
          · rename_i n f e1
            cases hs
            rw [e1] at hx
            have hxf := hx.fs_inv
            have hq' : ∃ u, a.eval x = u := ⟨_, rfl⟩
            obtain ⟨u, hu⟩ := hq'
            rw [hu] at hxf
            cases hxf with
            | fs0 ad c _ => exact fin _ _ _ hu rfl
            | fs ad _ c sz' _ val hb hcap hszp hlz hval hr => exact fin _ _ _ hu rfl
          · rename_i id ver n e1
            split at hs <;> cases hs
            rename_i ver' e' sz' m f hm
            subst h
            rw [e1] at hx
            obtain ⟨_, _, _, _, hinv⟩ := hx.sl_inv
            obtain ⟨hle, hu⟩ := hinv _ _ _ _ hm
            have hob := hw.obj id
            rw [hm] at hob
            obtain ⟨hz, xs, hown, hr⟩ := hob
            cases hloc : bl id with
            | none =>
              rw [hloc] at hu hown
              have hn0 : m = 0 := by
                rcases hown.2 with ⟨_, g⟩ | ⟨_, _, _, hv', _⟩
                · exact g
                · simp [slv] at hv'
              exact fin none 0 0 hu (by rw [show n = 0 by omega])
            | blk b c =>
              rw [hloc] at hu
              exact fin _ _ _ hu rfl
          · rename_i e1
            cases hs
            rw [e1] at hx
            have hu := hx.cap0_inv
            exact fin _ _ _ hu rfl
          · simp only [lenV] at hs
            split at hs
            · rename_i id ver n e1
              split at hs <;> cases hs
              rename_i ver' e' sz' m f hm
              subst h
              rw [e1] at hx
              obtain ⟨_, _, _, _, hinv⟩ := hx.vs_inv
              obtain ⟨hle, hu⟩ := hinv _ _ _ _ hm
              have hob := hw.obj id
              rw [hm] at hob
              obtain ⟨hz, xs, hown, hr⟩ := hob
              cases hloc : bl id with
              | none =>
                rw [hloc] at hu hown
                have hn0 : m = 0 := by
                  rcases hown.2 with ⟨_, g⟩ | ⟨_, _, _, hv', _⟩
                  · exact g
                  · simp [slv] at hv'
                exact fin none 0 0 hu (by rw [show n = 0 by omega])
              | blk b c =>
                rw [hloc] at hu
                exact fin _ _ _ hu rfl
            · cases hs
        · rename_i ht
          simp only [AI.val] at hs
          split at hs <;> cases hs
          rename_i s e1
          rw [e1] at hx
          have hu := hx.str_inv
          exact ⟨goInt s.size, by simp [execOp, ho, resolve, invoke, builtin, hu, Builtin.len_, run_underlying ht], .fz (.int _ _)⟩
      · rename_i ts x y
        cases hc
        have hx := hop x
        have hy := hop y
        simp only [AI.val] at hs
        split at hs
        · rename_i k m k' n e1 e2
          cases hk : kEq k k' with
          | false => rw [hk] at hs; cases hs
          | true =>
            rw [hk] at hs
            cases hs
            rw [e1] at hx; rw [e2] at hy
            exact ⟨.int k (if n > m then n else m), by simp [execOp, ho, resolve, invoke, builtin, hx.int_inv, hy.int_inv, Builtin.max_, Builtin.max2], .fz (.int _ _)⟩
        · cases hs
      · rename_i ts x y
        cases hc
        have hx := hop x
        have hy := hop y
        simp only [AI.val] at hs
        split at hs
        · rename_i k m k' n e1 e2
          cases hk : kEq k k' with
          | false => rw [hk] at hs; cases hs
          | true =>
            rw [hk] at hs
            cases hs
            rw [e1] at hx; rw [e2] at hy
            exact ⟨.int k (if n < m then n else m), by simp [execOp, ho, resolve, invoke, builtin, hx.int_inv, hy.int_inv, Builtin.min_, Builtin.min2], .fz (.int _ _)⟩
        · cases hs
      · cases hc
    · cases hc
  | _ => rw [ho] at hc; simp [compV] at hc

end
end Go.Ab
namespace Go.Ab
open Go
def basicT (P : Program) (t : TypeId) : Option BK := match P.underlying t, tsize P t with
  | some (.int _), some 1 => some .int
  | some .bool, some 1 => some .bool
  | some .string, some 1 => some .str
  | _, _ => none
def eqFlat (P : Program) : Nat → List Field → Option (List BK)
  | _, [] => some []
  | off, f :: r => bif !decide (f.name = "_") && Nat.beq f.offset off then
      match basicT P f.type, eqFlat P (off + 1) r with
      | some k, some ks => some (k :: ks)
      | _, _ => none
    else none
def intFlat (P : Program) : Nat → List Field → Option (List IntKind)
  | _, [] => some []
  | off, f :: r => bif !decide (f.name = "_") && Nat.beq f.offset off then
      match P.underlying f.type, tsize P f.type, intFlat P (off + 1) r with
      | some (.int k), some 1, some ks => some (k :: ks)
      | _, _, _ => none
    else none
def mkOf (P : Program) (t : TypeId) : Option MK := match P.underlying t with
  | some .string => some .str
  | some (.int k) => some (.int k)
  | some (.struct fs) => bif !P.stoodInHeld t then (intFlat P 0 fs.toList).map .ints else none
  | _ => none
def ekOf (P : Program) (t : TypeId) : Option (Option IntKind) := match P.underlying t, (P.info? t).bind (·.zero) with
  | some (.int k), some (.int k' 0) => bif kEq k k' then some (some k) else none
  | some .bool, some (.bool false) => some none
  | _, _ => none

def compV2 (P : Program) (op : Op) : Option AI :=
  match op with
  | .binOp op t x y _ => match P.underlying t with
    | some (.struct fs) => bif !P.stoodInHeld t && !P.eqGuardType P.depth t then
        match op, eqFlat P 0 fs.toList with
        | .eql, some ks => some (.aeq ks false (Opd.of x) (Opd.of y))
        | .neq, some ks => some (.aeq ks true (Opd.of x) (Opd.of y))
        | _, _ => none
      else none
    | some (.pointer _) => match op, y with
      | .eql, .const (.pointer none) => some (.pnil false (Opd.of x))
      | .neq, .const (.pointer none) => some (.pnil true (Opd.of x))
      | _, _ => none
    | _ => none
  | .lookup t x i ok => match P.underlying t with
    | some (.map kt et) => match mkOf P kt, ekOf P et with
      | some d, some k => some (.lku ok d k (Opd.of x) (Opd.of i))
      | _, _ => none
    | _ => none
  | .call c => match c.callee, c.args.toList, c.argTypes.toList with
    | .builtin .cap, [x], [t] => match P.underlying t with
      | some (.slice _) => some (.cp (Opd.of x))
      | _ => none
    | _, _, _ => none
  | _ => none
def compVX (P : Program) (op : Op) : Option AI := match compV P op with
  | some i => some i
  | none => compV2 P op

section
variable {P : Program} {X Y : Nat → Prop} {w0 w : World} {F : Nat → Prop} {bl : Nat → Loc} {mem : Mem} {a : Act} {env : Env} {o : Oper}

theorem drop_cons {cs rest : List AV} {off : Nat} {y : AV} (h : cs.drop off = y :: rest) : cs.drop (off + 1) = rest := by
  rw [← List.drop_drop, h]; rfl

theorem eqFields_run {us vs : Array Value} {xs ys : List AV} (hxl : us.size = xs.length) (hyl : vs.size = ys.length) (hx : ∀ j, j < xs.length → VV w F bl mem (us.getD j undef) (xs.getD j .undef)) (hy : ∀ j, j < ys.length → VV w F bl mem (vs.getD j undef) (ys.getD j .undef)) (d : Nat) :
    ∀ (fs : List Field) (off : Nat) (ks : List BK) (b : Bool), eqFlat P off fs = some ks → eqCells ks (xs.drop off) (ys.drop off) = some b → (Op.eqFields (d + 1) us vs fs).run P w = .ok b w
  | [], off, ks, b, hF, hE => by
    cases hF
    cases hxs : xs.drop off with
    | cons x r => rw [hxs] at hE; cases hys : ys.drop off <;> rw [hys] at hE <;> simp [eqCells] at hE
    | nil =>
      rw [hxs] at hE
      cases hys : ys.drop off with
      | nil => rw [hys] at hE; cases hE; simp [Op.eqFields]
      | cons y r => rw [hys] at hE; simp [eqCells] at hE
  | f :: fs, off, ks0, b, hF, hE => by
    simp only [eqFlat] at hF
    generalize hbb : (!decide (f.name = "_") && Nat.beq f.offset off) = bb at hF
    cases bb with
    | false => cases hF
    | true =>
      simp only [Bool.and_eq_true, Bool.not_eq_true', decide_eq_false_iff_not] at hbb
      obtain ⟨hn, ho⟩ := hbb
      have ho := Nat.eq_of_beq_eq_true ho
      simp only [cond_true] at hF
      split at hF <;> cases hF
      rename_i k ks hk hks
      cases hxs : xs.drop off with
      | nil => rw [hxs] at hE; cases k <;> simp [eqCells] at hE
      | cons x xr =>
        cases hys : ys.drop off with
        | nil => rw [hxs, hys] at hE; cases k <;> cases x <;> simp [eqCells] at hE
        | cons y yr =>
          rw [hxs, hys] at hE
          have ih := fun b' h => eqFields_run hxl hyl hx hy d fs (off + 1) ks b' hks (by rw [drop_cons hxs, drop_cons hys]; exact h)
          have go : ∀ (dsc : TypeDesc), P.underlying f.type = some dsc → tsize P f.type = some 1 → aggT P f.type = false → ∃ u1 u2, (part f.type us f.offset).run P w = .ok u1 w ∧ VV w F bl mem u1 x ∧ (part f.type vs f.offset).run P w = .ok u2 w ∧ VV w F bl mem u2 y ∧
              ∀ (e r : Bool), (Op.equalIn (d + 1) f.type u1 u2).run P w = .ok e w → eqCells ks xr yr = some r → (e && r) = b → (Op.eqFields (d + 1) us vs (f :: fs)).run P w = .ok b w := fun dsc hu hs1 hag => by
            obtain ⟨u1, hr1, hv1⟩ := run_part (P := P) (w := w) (F := F) (bl := bl) (mem := mem) hu hs1 hxl hx (ofs := f.offset) (v := x) (by rw [hag, ho, hxs]; rfl)
            obtain ⟨u2, hr2, hv2⟩ := run_part (P := P) (w := w) (F := F) (bl := bl) (mem := mem) hu hs1 hyl hy (ofs := f.offset) (v := y) (by rw [hag, ho, hys]; rfl)
            refine ⟨u1, u2, hr1, hv1, hr2, hv2, fun e r h1 h2 h3 => ?_⟩
            simp only [Op.eqFields, ne_eq, hn, not_false_eq_true, if_true, Sem.run_bind, hr1, hr2, h1, Result.andThen_ok]
            cases e with
            | false => simp at h3; simp [h3]
            | true => simp at h3; simpa [h3] using ih r h2
          unfold basicT at hk
          split at hk <;> cases hk
          · rename_i k0 hu hs1
            obtain ⟨u1, u2, hr1, hv1, hr2, hv2, key⟩ := go _ hu hs1 (by unfold aggT; rw [hu])
            cases x <;> cases y <;> simp only [eqCells] at hE <;> try (cases hE; done)
            rename_i k m k' n
            cases hkk : kEq k k' with
            | false => rw [hkk] at hE; cases hE
            | true =>
              rw [hkk] at hE
              obtain ⟨r, h2, h3⟩ := Option.map_eq_some_iff.1 hE
              have hkk := kEq_eq hkk
              subst hkk
              refine key (m == n) r ?_ h2 h3
              rw [hv1.int_inv, hv2.int_inv]
              exact run_equalIn_int w d f.type _ _ m n hu
          · rename_i hu hs1
            obtain ⟨u1, u2, hr1, hv1, hr2, hv2, key⟩ := go _ hu hs1 (by unfold aggT; rw [hu])
            cases x <;> cases y <;> simp only [eqCells] at hE <;> try (cases hE; done)
            rename_i m n
            obtain ⟨r, h2, h3⟩ := Option.map_eq_some_iff.1 hE
            refine key (m == n) r ?_ h2 h3
            rw [hv1.bool_inv, hv2.bool_inv]
            exact run_equalIn_bool' w d f.type m n hu
          · rename_i hu hs1
            obtain ⟨u1, u2, hr1, hv1, hr2, hv2, key⟩ := go _ hu hs1 (by unfold aggT; rw [hu])
            cases x <;> cases y <;> simp only [eqCells] at hE <;> try (cases hE; done)
            rename_i m n
            obtain ⟨r, h2, h3⟩ := Option.map_eq_some_iff.1 hE
            refine key (m.toList == n.toList) r ?_ h2 h3
            rw [hv1.str_inv, hv2.str_inv]
            exact run_equalIn_string w d f.type m n hu

theorem ekOf_zero {et : TypeId} {k : Option IntKind} (h : ekOf P et = some k) : (zeroValue et).run P w = .ok (elV k 0) w := by
  unfold ekOf at h
  split at h
  · rename_i k1 k2 h1 h2
    cases hk : kEq k1 k2 with
    | false => rw [hk] at h; cases h
    | true =>
      rw [hk] at h
      cases h
      obtain ⟨i, hi, hz⟩ := Option.bind_eq_some_iff.1 h2
      have := kEq_eq hk
      subst this
      simp [zeroValue, typeInfo, hi, hz, elV]
  · rename_i h1 h2
    cases h
    obtain ⟨i, hi, hz⟩ := Option.bind_eq_some_iff.1 h2
    simp [zeroValue, typeInfo, hi, hz, elV]
  · cases h

/-! ### keys -/
theorem intFlat_bk : ∀ (fs : List Field) (off : Nat) (ks : List IntKind), intFlat P off fs = some ks → eqFlat P off fs = some (ks.map fun _ => .int)
  | [], off, ks, h => by cases h; rfl
  | f :: r, off, ks0, h => by
    simp only [intFlat] at h
    simp only [eqFlat]
    generalize (!decide (f.name = "_") && Nat.beq f.offset off) = bb at h ⊢
    cases bb with
    | false => cases h
    | true =>
      simp only [cond_true] at h ⊢
      split at h <;> cases h
      rename_i k ks h1 h2 h3
      have hb : basicT P f.type = some .int := by unfold basicT; rw [h1, h2]; rfl
      rw [hb, intFlat_bk r (off + 1) ks h3]
      rfl
theorem ints_eq : ∀ {ks : List IntKind} {l l' : List Value}, aggInts ks l → aggInts ks l' → eqCells (ks.map fun _ => BK.int) (l.map cvs) (l'.map cvs) = some (keyEqL l l')
  | [], [], [], _, _ => rfl
  | [], _ :: _, _, h, _ => by simp [aggInts] at h
  | [], [], _ :: _, _, h => by simp [aggInts] at h
  | _ :: _, [], _, h, _ => by simp [aggInts] at h
  | _ :: _, _ :: _, [], _, h => by simp [aggInts] at h
  | k :: ks, x :: r, y :: s, h, h' => by
    cases x <;> simp only [aggInts] at h
    cases y <;> simp only [aggInts] at h'
    obtain ⟨rfl, h⟩ := h
    obtain ⟨rfl, h'⟩ := h'
    rename_i a j b
    have hk : kEq j j = true := by cases j <;> rfl
    have hab : (a == b) = decide (a = b) := by rw [Bool.eq_iff_iff]; simp
    simp only [List.map_cons, cvs, eqCells, hk, cond_true, ints_eq h h', Option.map_some, keyEqL, decide_true, Bool.true_and, hab]
theorem aggInts_at : ∀ {ks : List IntKind} {l : List Value}, aggInts ks l → l.length = ks.length
  | [], [], _ => rfl
  | [], _ :: _, h => by simp [aggInts] at h
  | _ :: _, [], h => by simp [aggInts] at h
  | k :: ks, x :: r, h => by
    cases x <;> simp only [aggInts] at h
    simp [aggInts_at h.2]
theorem aggInts_get : ∀ {ks : List IntKind} {l : List Value} {j : Nat} {k : IntKind}, aggInts ks l → ks[j]? = some k → ∃ n, l[j]? = some (.int k n)
  | [], [], _, _, _, h => by simp at h
  | [], _ :: _, _, _, h, _ => by simp [aggInts] at h
  | _ :: _, [], _, _, h, _ => by simp [aggInts] at h
  | k :: ks, x :: r, j, k0, h, hj => by
    cases x <;> simp only [aggInts] at h
    cases j with
    | zero => simp at hj ⊢; rw [← hj, h.1]
    | succ j => simpa using aggInts_get h.2 (by simpa using hj)

theorem checkFields (vs : Array Value) (e : Bool) (n : Nat) : ∀ (fs : List Field) (off : Nat) (ks : List IntKind), intFlat P off fs = some ks → (∀ j k, ks[j]? = some k → ∃ m, vs[off + j]? = some (.int k m)) →
    (forIn fs () (fun (f : Field) _ => do
      if f.name ≠ "_" then Instr.checkKey e (n + 1) f.type (← part f.type vs f.offset)
      pure (ForInStep.yield ()))).run P w = .ok () w
  | [], off, ks, h, _ => by simp
  | f :: r, off, ks0, h, hv => by
    simp only [intFlat] at h
    generalize hbb : (!decide (f.name = "_") && Nat.beq f.offset off) = bb at h
    cases bb with
    | false => cases h
    | true =>
      simp only [Bool.and_eq_true, Bool.not_eq_true', decide_eq_false_iff_not] at hbb
      obtain ⟨hn, ho⟩ := hbb
      have ho := Nat.eq_of_beq_eq_true ho
      simp only [cond_true] at h
      split at h <;> cases h
      rename_i k ks h1 h2 h3
      obtain ⟨m, hm⟩ := hv 0 k rfl
      obtain ⟨ti, hti, htin⟩ := Option.map_eq_some_iff.1 h2
      have hagg : (isAgg f.type).run P w = .ok false w := by simp [isAgg, run_underlying h1]
      have hp : (part f.type vs f.offset).run P w = .ok (.int k m) w := by
        rw [ho]
        simp only [Nat.add_zero] at hm
        simp only [part, Sem.run_bind, hagg, Result.andThen_ok, hm]
        rfl
      have hck : (Instr.checkKey e (n + 1) f.type (.int k m)).run P w = .ok () w := MapKept.run_checkKey (d := .int k) (k := .int k m) h1 rfl e n
      have ih := checkFields vs e n r (off + 1) ks h3 (fun j k' hj => by
        have := hv (j + 1) k' (by simpa using hj)
        rwa [show off + (j + 1) = off + 1 + j by omega] at this)
      simp only [List.forIn_cons, Sem.run_bind, ne_eq, hn, not_false_eq_true, if_true, hp, hck, Result.andThen_ok, Sem.run_pure]
      exact ih

theorem run_check {kt : TypeId} {d : MK} {kv : Value} (hd : mkOf P kt = some d) (hk : d.isK kv) (e : Bool) : (Instr.checkKey e 10000 kt kv).run P w = .ok () w := by
  unfold mkOf at hd
  split at hd
  · rename_i hu
    cases hd
    cases kv <;> simp only [MK.isK] at hk
    exact MapKept.run_checkKey (d := .string) hu (by trivial) e 9999
  · rename_i k hu
    cases hd
    cases kv <;> simp only [MK.isK] at hk
    exact MapKept.run_checkKey (d := .int k) hu (by exact hk) e 9999
  · rename_i fs hu
    generalize hb : P.stoodInHeld kt = bb at hd
    cases bb with
    | true => cases hd
    | false =>
      obtain ⟨ks, hks, rfl⟩ := Option.map_eq_some_iff.1 hd
      cases kv <;> simp only [MK.isK] at hk
      rename_i vs
      have h1 := checkFields (P := P) (w := w) vs e 9998 fs.toList 0 ks hks (fun j k hj => by
        obtain ⟨n, hn⟩ := aggInts_get hk hj
        exact ⟨n, by simpa using hn⟩)
      show (Instr.checkKey e (9999 + 1) kt (.agg vs)).run P w = .ok () w
      unfold Instr.checkKey
      simp only [Sem.run_bind, run_underlying hu, Result.andThen_ok]
      rw [← Array.forIn_toList, h1]
      rfl
  · cases hd

theorem equal_key {kt : TypeId} {ks : List IntKind} (hd : mkOf P kt = some (.ints ks)) {x y : Array Value} (hx : aggInts ks x.toList) (hy : aggInts ks y.toList) : (Op.equal kt (.agg x) (.agg y)).run P w = .ok (keyEqL x.toList y.toList) w := by
  unfold mkOf at hd
  split at hd
  · cases hd
  · cases hd
  · rename_i fs hu
    generalize hb : P.stoodInHeld kt = bb at hd
    cases bb with
    | true => cases hd
    | false =>
      obtain ⟨ks', hks, h⟩ := Option.map_eq_some_iff.1 hd
      cases h
      have hfo : P.fieldsOf kt = fs := by unfold Program.fieldsOf; rw [hu]
      have hc : ∀ (z : Array Value), ∀ j, j < (z.toList.map cvs).length → VV w (fun _ => True) (fun _ => .none) (fun _ => .dead 0) (z.getD j undef) ((z.toList.map cvs).getD j .undef) := fun z j hj => by
        have hj' : j < z.size := by simpa using hj
        have : (z.toList.map cvs).getD j .undef = cvs (z.getD j undef) := by simp [List.getD_eq_getElem?_getD, hj']
        rw [this]
        exact .fz (FV.cvs _)
      show (Op.equalIn 10000 kt (.agg x) (.agg y)).run P w = _
      rw [show (10000 : Nat) = 9998 + 1 + 1 from rfl, run_equalIn_struct w _ kt x y (by rw [hfo]; exact hu) hb, hfo]
      exact eqFields_run (by simp) (by simp) (hc x) (hc y) 9998 fs.toList 0 _ _ (intFlat_bk _ _ _ hks) (by simpa using ints_eq hx hy)
  · cases hd

theorem findAsk {kt : TypeId} {ks : List IntKind} (hd : mkOf P kt = some (.ints ks)) {kv : Value} (hk : (MK.ints ks).isK kv) : ∀ (l : List MapEntry) (i : Nat), (∀ x ∈ l, (MK.ints ks).isK x.key) →
    ((Instr.findAsking kt kv l i).run P w = .ok none w ∧ ∀ x ∈ l, x.key ≠ kv) ∨ ∃ j e, (Instr.findAsking kt kv l i).run P w = .ok (some (i + j, e.val)) w ∧ l[j]? = some e ∧ e.key = kv
  | [], i, _ => .inl ⟨by simp [Instr.findAsking], by simp⟩
  | e :: es, i, h => by
    have he := h e (.head _)
    cases hkv : kv with
    | agg x =>
      rw [hkv] at hk
      cases hek : e.key with
      | agg y =>
        rw [hek] at he
        have hq := equal_key (P := P) (w := w) hd hk he
        cases hb : keyEqL x.toList y.toList with
        | true =>
          rw [hb] at hq
          have := Array.toList_inj.1 (keyEqL_true hb)
          exact .inr ⟨0, e, by simp [Instr.findAsking, hek, hq], rfl, by rw [hek, this]⟩
        | false =>
          rw [hb] at hq
          have hne : e.key ≠ .agg x := fun q => by
            rw [hek] at q
            cases q
            rw [keyEqL_self hk] at hb
            cases hb
          have ih := findAsk hd (kv := .agg x) hk es (i + 1) (fun x hx => h x (.tail _ hx))
          rcases ih with ⟨h1, h2⟩ | ⟨j, e', h1, h2, h3⟩
          · exact .inl ⟨by simp [Instr.findAsking, hek, hq, h1], fun x hx => by
              cases hx with
              | head => exact hne
              | tail _ hx => exact h2 x hx⟩
          · exact .inr ⟨j + 1, e', by simp [Instr.findAsking, hek, hq, h1]; omega, by simpa using h2, h3⟩
      | _ => rw [hek] at he; simp [MK.isK] at he
    | _ => rw [hkv] at hk; simp [MK.isK] at hk

theorem findKey_spec {kt : TypeId} {d : MK} (hd : mkOf P kt = some d) {kv : Value} (hk : d.isK kv) (l : List MapEntry) (h : ∀ x ∈ l, d.isK x.key) :
    ((Instr.findKey kt kv l).run P w = .ok none w ∧ ∀ x ∈ l, x.key ≠ kv) ∨ ∃ j e, (Instr.findKey kt kv l).run P w = .ok (some (j, e.val)) w ∧ l[j]? = some e ∧ e.key = kv := by
  have plain : ∀ (td : TypeDesc), P.underlying kt = some td → MapKept.IsKey td kv → (∀ x ∈ l, MapKept.IsKey td x.key) → ((Instr.findKey kt kv l).run P w = .ok none w ∧ ∀ x ∈ l, x.key ≠ kv) ∨ ∃ j e, (Instr.findKey kt kv l).run P w = .ok (some (j, e.val)) w ∧ l[j]? = some e ∧ e.key = kv := fun td hu h1 h2 => by
    rcases MapKept.findNow_spec h1 l 0 h2 with ⟨h1, h2⟩ | ⟨j, e, h1, h2, h3⟩
    · exact .inl ⟨MapKept.run_findKey hu h1, h2⟩
    · exact .inr ⟨j, e, by simpa using MapKept.run_findKey hu h1, h2, h3⟩
  have hd0 := hd
  unfold mkOf at hd
  split at hd
  · rename_i hu
    cases hd
    refine plain _ hu ?_ fun x hx => ?_
    · cases kv <;> simp only [MK.isK] at hk; trivial
    · have := h x hx
      cases hkx : x.key <;> rw [hkx] at this <;> simp only [MK.isK] at this; trivial
  · rename_i k hu
    cases hd
    refine plain _ hu ?_ fun x hx => ?_
    · cases kv <;> simp only [MK.isK] at hk; exact hk
    · have := h x hx
      cases hkx : x.key <;> rw [hkx] at this <;> simp only [MK.isK] at this; exact this
  · rename_i fs hu
    generalize hb : P.stoodInHeld kt = bb at hd
    cases bb with
    | true => cases hd
    | false =>
      obtain ⟨ks, hks, rfl⟩ := Option.map_eq_some_iff.1 hd
      have ask := findAsk (P := P) (w := w) hd0 hk l 0 h
      cases l with
      | nil => exact .inl ⟨by simp [Instr.findKey, run_underlying hu, Instr.findNow], by simp⟩
      | cons e es =>
        have hn : Instr.findNow (.struct fs) kv (e :: es) 0 = none := by
          cases kv <;> simp only [MK.isK] at hk
          simp [Instr.findNow, Instr.sameNow]
        have heq : (Instr.findKey kt kv (e :: es)).run P w = (Instr.findAsking kt kv (e :: es)).run P w := by
          simp [Instr.findKey, run_underlying hu, hn]
        rw [heq]
        simpa using ask
  · cases hd

theorem stays {d : MK} {kv : Value} (hk : d.isK kv) : (Instr.keyThatStays kv kv).run P w = .ok kv w := by
  have ag : ∀ {ks : List IntKind} {l : List Value} (n : Nat), aggInts ks l → ((l.zip l).all fun (x, y) => Instr.sameBits n x y) = true := fun {ks l} n => by
    induction ks generalizing l with
    | nil => cases l <;> simp [aggInts]
    | cons k ks ih =>
      intro h
      cases l with
      | nil => simp
      | cons x r =>
        cases x <;> simp only [aggInts] at h
        simp only [List.zip_cons_cons, List.all_cons, ih h.2, Bool.and_true, Instr.sameBits]
        simp
  cases d <;> cases kv <;> simp only [MK.isK] at hk
  · exact MapKept.run_keyThatStays (d := .string) trivial
  · exact MapKept.run_keyThatStays (d := .int _) hk
  · rename_i ks vs
    have : Instr.sameBits 10000 (.agg vs) (.agg vs) = true := by
      rw [show (10000 : Nat) = 9999 + 1 from rfl]
      simp only [Instr.sameBits, ag 9999 hk, Bool.and_true]
      simp
    simp [Instr.keyThatStays, this]

theorem intsV_sound : ∀ {ks : List IntKind} {cs : List AV} {r : List Value} {us : List Value}, intsV ks cs = some r → us.length = cs.length → (∀ j, j < cs.length → VV w F bl mem (us.getD j undef) (cs.getD j .undef)) → us = r ∧ aggInts ks r
  | [], [], r, us, h, hl, _ => by cases h; exact ⟨List.eq_nil_of_length_eq_zero hl, trivial⟩
  | [], _ :: _, _, _, h, _, _ => by simp [intsV] at h
  | _ :: _, [], _, _, h, _, _ => by simp [intsV] at h
  | k :: ks, c :: cs, r, us, h, hl, hv => by
    cases c <;> simp only [intsV] at h <;> try (cases h; done)
    rename_i k' n
    cases hk : kEq k k' with
    | false => rw [hk] at h; cases h
    | true =>
      rw [hk] at h
      have := kEq_eq hk
      subst this
      obtain ⟨r', h1, rfl⟩ := Option.map_eq_some_iff.1 h
      cases us with
      | nil => simp at hl
      | cons u us =>
        obtain ⟨e1, e2⟩ := intsV_sound (us := us) h1 (by simpa using hl) (fun j hj => by simpa using hv (j + 1) (by simpa using hj))
        have h0 := hv 0 (by simp)
        simp only [List.getD_cons_zero] at h0
        exact ⟨by rw [h0.int_inv, e1], rfl, e2⟩

theorem keyV_sound {d : MK} {u : Value} {v : AV} {kv : Value} (hu : VV w F bl mem u v) (h : keyV d v = some kv) : u = kv ∧ d.isK kv := by
  cases d <;> cases v <;> simp only [keyV] at h <;> try (cases h; done)
  · cases h; exact ⟨hu.str_inv, trivial⟩
  · rename_i k k' n
    cases hk : kEq k k' with
    | false => rw [hk] at h; cases h
    | true =>
      rw [hk] at h
      cases h
      have := kEq_eq hk
      subst this
      exact ⟨hu.int_inv, rfl⟩
  · obtain ⟨r, h1, rfl⟩ := Option.map_eq_some_iff.1 h
    obtain ⟨vs, rfl, hl, hr⟩ := hu.agg_inv
    obtain ⟨e1, e2⟩ := intsV_sound (us := vs.toList) h1 (by simpa using hl) (fun j hj => by simpa [List.getD_eq_getElem?_getD] using hr j hj)
    exact ⟨by rw [← e1], by simpa [MK.isK] using e2⟩

theorem elV_sound (k : Option IntKind) (n : Int) : FV w F (elV k n) (elA k n) := by cases k <;> constructor

theorem find_in {kt : TypeId} {es : Array MapEntry} {clock : Nat} {d : MK} {k : Option IntKind} {p : Value → Bool} {g : Value → Int} (hd : mkOf P kt = some d) (h : MapRep es clock d k p g) {kv : Value} (hk : d.isK kv) :
    ((Instr.findKey kt kv es.toList).run P w = .ok none w ∧ p kv = false ∧ ∀ x ∈ es.toList, x.key ≠ kv) ∨ ∃ j e, (Instr.findKey kt kv es.toList).run P w = .ok (some (j, e.val)) w ∧ es.toList[j]? = some e ∧ e.key = kv ∧ p kv = true ∧ e.val = elV k (g kv) := by
  obtain ⟨hs, hik, hv, hp, hg⟩ := h
  rcases findKey_spec (P := P) (w := w) hd hk es.toList hik with ⟨h1, h2⟩ | ⟨j, e, h1, h2, h3⟩
  · refine .inl ⟨h1, ?_, h2⟩
    cases hpk : p kv with
    | false => rfl
    | true =>
      obtain ⟨x, hx, e⟩ := hp kv hpk
      exact absurd e (h2 x hx)
  · have hm : e ∈ es.toList := List.mem_of_getElem? h2
    obtain ⟨q1, q2⟩ := hv e hm
    rw [h3] at q1 q2
    exact .inr ⟨j, e, h1, h2, h3, q1, q2⟩

theorem run_equal_ptr {t e : TypeId} (ht : P.underlying t = some (.pointer e)) (ad : Option Addr) : (Op.equal t (.pointer ad) (.pointer none)).run P w = .ok ad.isNone w := by
  have key : ∀ d, (Op.equalIn (d + 1) t (.pointer ad) (.pointer none)).run P w = .ok ad.isNone w := fun d => by cases ad <;> simp [Op.equalIn, run_underlying ht]
  exact key 9999
theorem run_eqGuard_ptr (op : BinOp) (t : TypeId) (x y : Operand) (ad bd : Option Addr) : (eqGuard op t x y (.pointer ad) (.pointer bd)).run P w = .ok () w := by
  unfold eqGuard
  cases op <;> simp
theorem nilEqlP {F : Nat → Prop} {t e : TypeId} {x : Operand} {yt : TypeId} (ho : o.op = .binOp .eql t x (.const (.pointer none)) yt) (ht : P.underlying t = some (.pointer e)) {ad : Option Addr} (hu : a.eval x = .pointer ad) : Yld P w F bl mem a o (.bool ad.isNone) := by
  refine Yld.of ho (do eqGuard .eql t x (.const (.pointer none)) (a.eval x) (a.eval (.const (.pointer none))); binOp .eql t (a.eval x) (a.eval (.const (.pointer none)))) rfl ?_ (.fz (.bool _))
  rw [hu, show a.eval (.const (.pointer none)) = .pointer none from rfl, Sem.run_bind, run_eqGuard_ptr]
  simp only [binOp, Sem.run_bind, run_equal_ptr ht, Result.andThen_ok]
  rfl
theorem nilNeqP {F : Nat → Prop} {t e : TypeId} {x : Operand} {yt : TypeId} (ho : o.op = .binOp .neq t x (.const (.pointer none)) yt) (ht : P.underlying t = some (.pointer e)) {ad : Option Addr} (hu : a.eval x = .pointer ad) : Yld P w F bl mem a o (.bool (!ad.isNone)) := by
  refine Yld.of ho (do eqGuard .neq t x (.const (.pointer none)) (a.eval x) (a.eval (.const (.pointer none))); binOp .neq t (a.eval x) (a.eval (.const (.pointer none)))) rfl ?_ (.fz (.bool _))
  rw [hu, show a.eval (.const (.pointer none)) = .pointer none from rfl, Sem.run_bind, run_eqGuard_ptr]
  simp only [binOp, Sem.run_bind, run_equal_ptr ht, Result.andThen_ok]
  rfl
theorem pnilSound {t e : TypeId} {x : Operand} {yt : TypeId} {ng : Bool} {c : Prop} {v : AV} (ho : o.op = .binOp (bif ng then .neq else .eql) t x (.const (.pointer none)) yt) (ht : P.underlying t = some (.pointer e))
    (hv : ∀ k, VV w (Fr X w bl mem) bl mem (a.tmps.getD k undef) (env k)) (hs : (AI.pnil ng (Opd.of x)).val env mem = some (c, v)) (h : c) : Yld P w (Fr X w bl mem) bl mem a o v := by
  have hx := VV.opd hv x
  simp only [AI.val] at hs
  split at hs
  · rename_i id ver off e1
    split at hs <;> cases hs
    rename_i ver' cs hm
    subst h
    rw [e1] at hx
    obtain ⟨_, _, hinv⟩ := hx.ptr_inv
    obtain ⟨b, c, hb, hu⟩ := hinv _ hm
    cases ng
    · exact nilEqlP ho ht hu
    · exact nilNeqP ho ht hu
  · rename_i e1
    cases hs
    rw [e1] at hx
    have hu : a.eval x = .pointer none := by
      generalize a.eval x = u at hx
      cases hx; rename_i g; cases g; rfl
    cases ng
    · exact nilEqlP ho ht hu
    · exact nilNeqP ho ht hu
  · cases hs

theorem val2Sound {i : AI} {c : Prop} {v : AV} (hc : compV2 P o.op = some i) (hw : WS X Y w0 w bl mem) (hv : ∀ k, VV w (Fr X w bl mem) bl mem (a.tmps.getD k undef) (env k))
    (hs : i.val env mem = some (c, v)) (h : c) : Yld P w (Fr X w bl mem) bl mem a o v := by
  have hop := fun x => VV.opd hv x
  cases ho : o.op with
  | binOp op t x y yt =>
    rw [ho] at hc
    simp only [compV2] at hc
    have hx := hop x
    have hy := hop y
    split at hc
    · rename_i fs hut
      generalize hbb : (!P.stoodInHeld t && !P.eqGuardType P.depth t) = bb at hc
      cases bb with
      | false => cases hc
      | true =>
        simp only [Bool.and_eq_true, Bool.not_eq_true'] at hbb
        have hfo : P.fieldsOf t = fs := by unfold Program.fieldsOf; rw [hut]
        have main : ∀ (ks : List BK) (xs ys : List AV) (b : Bool), eqFlat P 0 fs.toList = some ks → (Opd.of x).ev env = .agg xs → (Opd.of y).ev env = .agg ys → eqCells ks xs ys = some b → ∃ us vs, a.eval x = .agg us ∧ a.eval y = .agg vs ∧ (Op.equalIn 10000 t (.agg us) (.agg vs)).run P w = .ok b w := fun ks xs ys b h1 h2 h3 h4 => by
          rw [h2] at hx; rw [h3] at hy
          obtain ⟨us, e1, hl1, hr1⟩ := hx.agg_inv
          obtain ⟨vs, e2, hl2, hr2⟩ := hy.agg_inv
          refine ⟨us, vs, e1, e2, ?_⟩
          rw [show (10000 : Nat) = 9998 + 1 + 1 from rfl, run_equalIn_struct w _ t us vs (by rw [hfo]; exact hut) hbb.1, hfo]
          exact eqFields_run hl1 hl2 hr1 hr2 9998 fs.toList 0 ks b h1 (by simpa using h4)
        simp only [cond_true] at hc
        split at hc <;> cases hc
        all_goals
          rename_i ks hks
          simp only [AI.val] at hs
          split at hs
          · rename_i xs ys e1 e2
            obtain ⟨b, h1, h2⟩ := Option.map_eq_some_iff.1 hs
            cases h2
            obtain ⟨us, vs, q1, q2, q3⟩ := main ks xs ys b hks e1 e2 h1
            refine Yld.of ho (do eqGuard _ t x y (a.eval x) (a.eval y); binOp _ t (a.eval x) (a.eval y)) rfl ?_ (.fz (.bool _))
            rw [q1, q2, Sem.run_bind, run_eqGuard_agg w _ t x y us vs hbb.2]
            simp only [Result.andThen_ok, run_eql_struct, run_neq_struct, q3]
          · cases hs
    · rename_i e hut
      split at hc <;> cases hc
      · exact pnilSound (ng := false) ho hut hv hs h
      · exact pnilSound (ng := true) ho hut hv hs h
    · cases hc
  | lookup t x i ok =>
    rw [ho] at hc
    simp only [compV2] at hc
    have hx := hop x
    have hi := hop i
    split at hc
    · rename_i kt et hut
      split at hc <;> cases hc
      rename_i d k hd hk
      simp only [AI.val] at hs
      split at hs
      · rename_i id ver kv e1 e2
        split at hs <;> cases hs
        rename_i ver' d' k' p g hm
        obtain ⟨rfl, rfl, rfl⟩ := h
        rw [e1] at hx
        obtain ⟨_, _, hinv⟩ := hx.mp_inv
        obtain ⟨b, c, hb, hu⟩ := hinv _ _ _ _ hm
        have hob := hw.obj id
        rw [hm, hb] at hob
        obtain ⟨b', c', es, clock, hl, hh, hrep⟩ := hob
        cases hl
        obtain ⟨hkv, hisk⟩ := keyV_sound hi e2
        have hck : (Instr.checkKey es.isEmpty 10000 kt kv).run P w = .ok () w := run_check hd hisk _
        have base : (Instr.lookup t (a.eval x) (a.eval i) ok).run P w = .ok (match ok with | true => .tuple #[elV k' (g kv), .bool (p kv)] | false => elV k' (g kv)) w := by
          rw [hu, hkv]
          rcases find_in (P := P) (w := w) hd hrep hisk with ⟨h1, h2, _⟩ | ⟨j, e, h1, h2, h3, h4, h5⟩
          · have hg0 : g kv = 0 := hrep.2.2.2.2 kv h2
            cases ok <;> simp [Instr.lookup, run_underlying hut, MapKept.run_getObj_map hh, hck, h1, ekOf_zero hk, hg0, h2]
          · cases ok <;> simp [Instr.lookup, run_underlying hut, MapKept.run_getObj_map hh, hck, h1, h5, h4]
        refine Yld.of ho (Instr.lookup t (a.eval x) (a.eval i) ok) rfl base ?_
        cases ok with
        | false => exact .fz (elV_sound _ _)
        | true => exact .fz (.tup _ _ rfl (fun j hj => by
            have hj2 : j = 0 ∨ j = 1 := by simp at hj; omega
            rcases hj2 with h | h <;> subst h
            · exact elV_sound _ _
            · exact .bool _))
      · cases hs
    · cases hc
  | call c0 =>
    rw [ho] at hc
    obtain ⟨callee, args, argTypes⟩ := c0
    simp only [compV2] at hc
    split at hc
    · obtain ⟨args⟩ := args
      obtain ⟨argTypes⟩ := argTypes
      rename_i x t h2 h3
      simp only at h2 h3
      subst h2; subst h3
      have hx := hop x
      split at hc <;> cases hc
      rename_i e ht
      simp only [AI.val] at hs
      split at hs
      · rename_i e1
        cases hs
        rw [e1] at hx
        have hu := hx.cap0_inv
        exact ⟨goInt 0, by simp [execOp, ho, resolve, invoke, builtin, hu, Builtin.cap_, run_underlying ht], .fz (.int _ _)⟩
      · cases hs
    · cases hc
  | _ => rw [ho] at hc; simp [compV2] at hc

theorem valXSound {i : AI} {c : Prop} {v : AV} (hc : compVX P o.op = some i) (hw : WS X Y w0 w bl mem) (hv : ∀ k, VV w (Fr X w bl mem) bl mem (a.tmps.getD k undef) (env k))
    (hs : i.val env mem = some (c, v)) (h : c) : Yld P w (Fr X w bl mem) bl mem a o v := by
  unfold compVX at hc
  split at hc
  · rename_i j hj
    cases hc
    exact valSound hj hw hv hs h
  · exact val2Sound hc hw hv hs h
end
end Go.Ab
namespace Go.Ab
open Go
def isFz0 : AV → Bool
  | .int _ _ | .bool _ | .str _ | .nilp | .nilf | .cap0 | .fs _ _ | .fp _ => true
  | _ => false

/-- A cell's value as data that is only read: a row of the call's own is let go for it. -/
def frz0 (mem : Mem) : AV → Option (Prop × AV × Mem)
  | .sl id ver n => match mem id with
    | .row ver' _ _ _ f => some (ver = ver', .fs n f, Mem.set id (.dead (ver' + 1)) mem)
    | _ => none
  | v => bif isFz0 v then some (True, v, mem) else none

def frzL : List AV → Mem → Option (Prop × List AV × Mem)
  | [], mem => some (True, [], mem)
  | c :: cs, mem => match frz0 mem c with
    | some (p, c', mem1) => match frzL cs mem1 with
      | some (q, r, m) => some (p ∧ q, c' :: r, m)
      | none => none
    | none => none

/-- The same for a value: a struct's cells one by one. -/
def frzV (v : AV) (mem : Mem) : Option (Prop × List AV × Mem) := bif v.okv then frzL v.cells mem else none

def mkElt : List AV → AV
  | [v] => v
  | cs => .agg cs

def newElt (sz o n : Nat) (vs old : List AV) : AV := bif Nat.beq n sz then mkElt vs else .agg (old.take o ++ vs ++ old.drop (o + n))

inductive EI where
  | store (n : Nat) (p v : Opd)
  | alloc (site : Nat) (z : List AV)
  | box (site n : Nat) (v : Opd)
  | lit (site e sz len : Nat) (z : List AV) (parts : List (Nat × Opd))
  | make (site e sz bytes : Nat) (z : List AV) (len cap : Opd)
  | app (site e sz bytes : Nat) (x y : Opd)
  | appz (site e sz bytes : Nat) (z : List AV) (x y : Opd)
  | mkmap (site : Nat) (d : MK) (k : Option IntKind)
  | mapup (d : MK) (k : Option IntKind) (x key v : Opd)
  | strb (x : Opd)
  | clr (z : List AV) (x : Opd)
  | range (site : Nat) (x : Opd)
  | entry (x : Opd)
  | bstr (x : Opd)
  | slca (len : Nat) (x : Opd)

def byteN : AV → Int
  | .int _ c => c
  | _ => 0
/-- The bytes of a row, as a string. -/
def bytesA (n : Nat) (f : Nat → AV) : ByteArray := ((List.range n).map fun i => byteN (f i)).foldl (fun r n => r.push (UInt8.ofNat n.toNat)) ByteArray.empty

def litA (env : Env) (sz : Nat) : List (Nat × Opd) → List AV → Mem → Option (Prop × List AV × Mem)
  | [], es, mem => some (True, es, mem)
  | (i, x) :: rest, es, mem => match frzV (x.ev env) mem with
    | some (p, cs, mem') => bif Nat.beq cs.length sz && Nat.blt i es.length then
        match litA env sz rest (es.set i (mkElt cs)) mem' with
        | some (q, es', m) => some (p ∧ q, es', m)
        | none => none
      else none
    | none => none

/-- What an append takes its elements from. -/
def appSrc (sz : Nat) (y : AV) (mem : Mem) : Option (Prop × Nat × (Nat → AV)) :=
  match y with
  | .fs m g => some (True, m, g)
  | .sl j ver m => match mem j with
    | .row ver' _ s _ g => bif Nat.beq s sz then some (ver = ver', m, g) else none
    | _ => none
  | .cap0 => some (True, 0, fun _ => .undef)
  | _ => none

/-- A map's element as a whole number. -/
def elN : Option IntKind → AV → Option Int
  | some k, .int k' n => bif kEq k k' then some n else none
  | none, .bool b => some (match b with | true => 1 | false => 0)
  | _, _ => none

/-- A store into a row whose elements may lead to own objects. -/
def storeV (mem : Mem) (n : Nat) (p v : AV) : Option (Prop × AV × Mem) :=
  match p with
  | .vp id ver i o => match mem id with
    | .vrow ver' e sz m f => bif v.okv && v.cells.all AV.isCell && Nat.beq v.cells.length n && Nat.ble (o + n) sz then
        some (ver = ver' ∧ i < m, .undef, Mem.set id (.vrow ver' e sz m (fun j => bif Nat.beq j i then newElt sz o n v.cells (f i).cells else f j)) mem) else none
    | _ => none
  | _ => none

def EI.run (env : Env) (mem : Mem) : EI → Option (Prop × AV × Mem)
  | .store n p v => match p.ev env with
    | .ptr id ver o => match mem id with
      | .var ver' cs => bif (v.ev env).okv && (v.ev env).cells.all AV.isCell && Nat.beq (v.ev env).cells.length n && Nat.ble (o + n) cs.length then
          some (ver = ver', .undef, Mem.set id (.var ver' (cs.take o ++ (v.ev env).cells ++ cs.drop (o + n))) mem) else none
      | _ => none
    | .rp id ver i o => match frzV (v.ev env) mem with
      | some (p1, vs, mem') => match mem' id with
          | .row ver' e sz m f => bif Nat.beq vs.length n && Nat.ble (o + n) sz then
              some (p1 ∧ ver = ver' ∧ i < m, .undef, Mem.set id (.row ver' e sz m (fun j => bif Nat.beq j i then newElt sz o n vs (f i).cells else f j)) mem') else none
          | _ => none
      | none => none
    | u => storeV mem n u (v.ev env)
  | .appz site e sz bytes z x y => match x.ev env, y.ev env with
    | .cap0, .int _ m => some (0 < m ∧ (bytes : Int) * m ≤ 140737488355328 ∧ m ≤ 9223372036854775807, .sl site ((mem site).ver + 1) m.toNat, Mem.set site (.row ((mem site).ver + 1) e sz m.toNat (fun _ => mkElt z)) mem)
    | _, _ => none
  | .mkmap site d k => some (True, .mp site ((mem site).ver + 1), Mem.set site (.map ((mem site).ver + 1) d k (fun _ => false) (fun _ => 0)) mem)
  | .mapup d k x key v => match x.ev env, keyV d (key.ev env), elN k (v.ev env) with
    | .mp id ver, some kv, some n => match mem id with
      | .map ver' d' k' p g => some (ver = ver' ∧ d' = d ∧ k' = k, .undef, Mem.set id (.map ver' d' k' (fun q => bif keyEq q kv then true else p q) (fun q => bif keyEq q kv then n else g q)) mem)
      | _ => none
    | _, _, _ => none
  | .range site x => match x.ev env with
    | .mp id ver => match mem id with
      | .map ver' d' k' p g => some (ver = ver' ∧ ¬ site = id, .it site ((mem site).ver + 1), Mem.set site (.iter ((mem site).ver + 1) d' k' p g none) (Mem.set id (.dead (ver + 1)) mem))
      | _ => none
    | _ => none
  | .entry x => match x.ev env with
    | .it id ver => match mem id with
      | .iter ver' d' k' p g (some key) => some (ver = ver', .tup [cv key, elA k' (g key)], mem)
      | _ => none
    | _ => none
  | .strb x => match x.ev env with
    | .str s => some (True, .fs s.size (fun i => .int .u8 ((s.data.toList.getD i 0).toNat : Int)), mem)
    | _ => none
  | .clr z x => match x.ev env with
    | .sk id ver o n => match mem id with
      | .row ver' e s m f => bif Nat.beq s 1 && Nat.beq z.length 1 then some (ver = ver', .tup [], Mem.set id (.row ver' e s m (fun j => bif Nat.ble o j && Nat.blt j (o + n) then mkElt z else f j)) mem) else none
      | _ => none
    | _ => none
  | .alloc site z => some (True, .ptr site ((mem site).ver + 1) 0, Mem.set site (.var ((mem site).ver + 1) z) mem)
  | .box site n v => bif (v.ev env).okv && (v.ev env).cells.all AV.isCell then
      some (True, .ptr site ((mem site).ver + 1) 0, Mem.set site (.var ((mem site).ver + 1) (v.ev env).cells) mem) else none
  | .lit site e sz len z parts => match len with
    | 0 => match parts with
      | [] => some (True, .sl site ((mem site).ver + 1) 0, Mem.set site (.row ((mem site).ver + 1) e sz 0 (fun _ => .undef)) mem)
      | _ => none
    | _ => match litA env sz parts (List.replicate len (mkElt z)) mem with
      | some (p, es, mem') => some (p, .sl site ((mem' site).ver + 1) len, Mem.set site (.row ((mem' site).ver + 1) e sz len (fun i => es.getD i .undef)) mem')
      | none => none
  | .make site e sz bytes z l c => match l.ev env, c.ev env with
    | .int _ n, .int _ m => some (0 ≤ n ∧ n ≤ m ∧ (bytes : Int) * m ≤ 140737488355328 ∧ m ≤ 9223372036854775807, .sl site ((mem site).ver + 1) n.toNat, Mem.set site (.row ((mem site).ver + 1) e sz n.toNat (fun _ => mkElt z)) mem)
    | _, _ => none
  | .app site e sz bytes x y => match appSrc sz (y.ev env) mem with
    | none => none
    | some (p, m, g) => match x.ev env with
      | .sl id ver n => match mem id with
        | .row ver' e' s n' f => bif Nat.beq e' e && Nat.beq s sz then
            some (p ∧ (∀ i, i < m → (g i).cells.length = sz ∧ (g i).cells.all AV.isCell = true) ∧ ver = ver' ∧ n ≤ n' ∧ (n + m) * bytes ≤ 140737488355328 ∧ n + m ≤ 9223372036854775807, .sl id (ver' + 1) (n + m), Mem.set id (.row (ver' + 1) e sz (n + m) (fun i => bif Nat.blt i n then f i else g (i - n))) mem) else none
        | _ => none
      | .cap0 => match m with
        | 0 => some (p, .cap0, mem)
        | m + 1 => some (p ∧ (∀ i, i < m + 1 → (g i).cells.length = sz ∧ (g i).cells.all AV.isCell = true) ∧ (m + 1) * bytes ≤ 140737488355328 ∧ m + 1 ≤ 9223372036854775807, .sl site ((mem site).ver + 1) (m + 1), Mem.set site (.row ((mem site).ver + 1) e sz (m + 1) g) mem)
      | _ => none
  | .bstr x => match x.ev env with
    | .sl id ver n => match mem id with
      | .row ver' _ s _ f => bif Nat.beq s 1 then some (ver = ver' ∧ 0 < n ∧ ∀ i, i < n → ∃ c, f i = .int .u8 c, .str (bytesA n f), mem) else none
      | _ => none
    | _ => none
  | .slca ln x => match x.ev env with
    | .ptr id ver o => match mem id with
      | .var ver' cs => bif Nat.beq o 0 && Nat.beq cs.length ln && (cs.all isFz0) then
          some (ver = ver' ∧ ∀ k, k < ln → (cs.getD k .undef).cells.length = 1, .fs ln (fun k => cs.getD k .undef), Mem.set id (.dead (ver' + 1)) mem) else none
      | _ => none
    | _ => none

section
variable {P : Program} {X Y : Nat → Prop} {w0 w : World} {bl : Nat → Loc} {mem : Mem} {a : Act} {env : Env} {o : Oper}

/-- What is shown of an instruction that may turn memory. -/
def Eff (P : Program) (X Y : Nat → Prop) (w0 w : World) (bl : Nat → Loc) (mem : Mem) (a : Act) (o : Oper) (v : AV) (mem' : Mem) : Prop :=
  ∃ u w' bl', ((execOp a.eval o).run P w = .ok (.value u) w' ∨ ((execOp a.eval o).run P w = .ok .skip w' ∧ u = undef)) ∧ WS X Y w0 w' bl' mem' ∧
    VV w' (Fr X w' bl' mem') bl' mem' u v ∧ (∀ b, Fr X w bl mem b → Fr X w' bl' mem' b ∧ w'.heap[b]? = w.heap[b]?) ∧ Later mem mem' bl bl'

theorem Later.trans {m1 m2 m3 : Mem} {b1 b2 b3 : Nat → Loc} (h : Later m1 m2 b1 b2) (k : Later m2 m3 b2 b3) : Later m1 m3 b1 b3 := fun id => by
  obtain ⟨h1, h2⟩ := h id
  obtain ⟨k1, k2⟩ := k id
  refine ⟨Nat.le_trans h1 k1, fun e => ?_⟩
  obtain ⟨h3, h4⟩ := h2 (by omega)
  obtain ⟨k3, k4⟩ := k2 (by omega)
  refine ⟨?_, by rw [k4, h4]⟩
  cases e1 : m1 id <;> cases e2 : m2 id <;> cases e3 : m3 id <;> simp_all [Kept]
  all_goals omega

theorem Eff.of_yld {v : AV} (hw : WS X Y w0 w bl mem) (h : Yld P w (Fr X w bl mem) bl mem a o v) : Eff P X Y w0 w bl mem a o v mem :=
  let ⟨u, h1, h2⟩ := h
  ⟨u, w, bl, .inl h1, hw, h2, fun _ hb => ⟨hb, rfl⟩, Later.refl _ _⟩

theorem VV.toFz {F : Nat → Prop} {u : Value} {c : AV} (h : VV w F bl mem u c) (hf : isFz0 c = true) : FV w F u c := by
  cases h with
  | fz g => exact g
  | _ => simp [isFz0] at hf

/-! ### letting a row go -/
theorem frz_one (hw : WS X Y w0 w bl mem) {id ver n : Nat} {e sz m : Nat} {f : Nat → AV} (hm : mem id = .row ver e sz m f) {u : Value} (hu : VV w (Fr X w bl mem) bl mem u (.sl id ver n)) :
    ∃ bl', WS X Y w0 w bl' (Mem.set id (.dead (ver + 1)) mem) ∧ (∀ b, Fr X w bl mem b → Fr X w bl' (Mem.set id (.dead (ver + 1)) mem) b) ∧ Later mem (Mem.set id (.dead (ver + 1)) mem) bl bl' ∧
      FV w (Fr X w bl' (Mem.set id (.dead (ver + 1)) mem)) u (.fs n f) := by
  have hv : (mem id).ver = ver := by rw [hm]; rfl
  obtain ⟨h1, h2, h3⟩ := WS.upd (w' := w) hw id (.dead (ver + 1)) .none (by rw [hv]; exact Nat.le_succ _) (fun g => by rw [hv] at g; simp only [AO.ver] at g; omega) rfl rfl rfl (Nat.le_refl _) (fun _ _ _ => rfl) (fun b c h _ => by cases h) (fun _ _ => trivial)
  refine ⟨_, h1, fun b hb => (h2 b hb).1, h3, ?_⟩
  obtain ⟨_, _, _, _, hinv⟩ := hu.sl_inv
  obtain ⟨hle, hu'⟩ := hinv _ _ _ _ hm
  rw [hu']
  have hob := hw.obj id
  rw [hm] at hob
  obtain ⟨hz, xs, hown, hr⟩ := hob
  cases hloc : bl id with
  | none =>
    rw [hloc] at hown
    have hn0 : m = 0 := by
      rcases hown.2 with ⟨_, g⟩ | ⟨_, _, _, hv', _⟩
      · exact g
      · simp [slv] at hv'
    obtain rfl : n = 0 := by omega
    exact .fs0 _ _ _
  | blk b c =>
    rw [hloc] at hown
    have hmc : m ≤ c := by
      rcases hown.2 with ⟨hv', _⟩ | ⟨_, _, _, hv', _, _, g, _⟩
      · simp [slv] at hv'
      · simp [slv] at hv'; omega
    have hd : (mem id).live = true := by rw [hm]; rfl
    have hbo := hw.own id b c hd hloc
    rcases Nat.eq_zero_or_pos n with h0 | h0
    · subst h0; exact .fs0 _ _ _
    · refine .fs ⟨b, 0, none⟩ n c sz f (fun i j => xs.getD (i * sz + j) undef) ⟨hbo.2.2, hbo.1, ?_⟩ (by omega) hz (fun i hi => (hr i (by omega)).1) (fun i j hi hj => ?_) (fun i j hi hj => ((hr i (by omega)).2 j hj).mono h2)
      · rintro ⟨i, c', hi, hb⟩
        by_cases ei : i = id
        · rw [ei, set_same] at hi; cases hi
        · rw [set_ne ei] at hi
          rw [updL_ne ei] at hb
          exact ei (hw.inj i id b c' c hi hd hb hloc)
      · have hlt : i * sz + j < xs.length := by rw [hown.1]; have := cells_le (n := 1) (show i < m by omega) (show j + 1 ≤ sz by omega); omega
        exact hown.cells (g := b) rfl _ _ (by simp [List.getD_eq_getElem?_getD, hlt])

theorem frzL_sound : ∀ (cs : List AV) (mem : Mem) (bl : Nat → Loc) (us : Nat → Value) (q : Prop) (r : List AV) (mem' : Mem), WS X Y w0 w bl mem →
    (∀ j, j < cs.length → VV w (Fr X w bl mem) bl mem (us j) (cs.getD j .undef)) → frzL cs mem = some (q, r, mem') → q →
    ∃ bl', WS X Y w0 w bl' mem' ∧ (∀ b, Fr X w bl mem b → Fr X w bl' mem' b) ∧ Later mem mem' bl bl' ∧ r.length = cs.length ∧ r.all AV.isCell = true ∧
      ∀ j, j < cs.length → FV w (Fr X w bl' mem') (us j) (r.getD j .undef)
  | [], mem, bl, us, q, r, mem', hw, hu, h, hq => by
    simp only [frzL, Option.some.injEq, Prod.mk.injEq] at h
    obtain ⟨_, rfl, rfl⟩ := h
    exact ⟨bl, hw, fun _ h => h, Later.refl _ _, rfl, rfl, fun j hj => by simp at hj⟩
  | c :: cs, mem, bl, us, q, r, mem', hw, hu, h, hq => by
    simp only [frzL] at h
    split at h
    · rename_i p c' mem1 hc
      split at h <;> cases h
      rename_i q' r' hrest
      obtain ⟨hp, hq'⟩ := hq
      have h0 := hu 0 (by simp)
      simp only [List.getD_cons_zero] at h0
      have one : ∃ bl1, WS X Y w0 w bl1 mem1 ∧ (∀ b, Fr X w bl mem b → Fr X w bl1 mem1 b) ∧ Later mem mem1 bl bl1 ∧ FV w (Fr X w bl1 mem1) (us 0) c' ∧ c'.isCell = true := by
        by_cases hsl : ∃ id ver n, c = .sl id ver n
        · obtain ⟨id, ver, n, rfl⟩ := hsl
          simp only [frz0] at hc
          split at hc <;> cases hc
          rename_i ver' e s m f hm
          subst hp
          obtain ⟨bl1, g1, g2, g3, g4⟩ := frz_one hw hm h0
          exact ⟨bl1, g1, g2, g3, g4, rfl⟩
        · have hcc : p = True ∧ c' = c ∧ mem1 = mem ∧ isFz0 c = true := by
            cases c <;> first | (exact absurd ⟨_, _, _, rfl⟩ hsl) | (simp [frz0, isFz0] at hc; done) | (simp only [frz0, isFz0, cond_true, Option.some.injEq, Prod.mk.injEq] at hc; obtain ⟨rfl, rfl, rfl⟩ := hc; exact ⟨rfl, rfl, rfl, rfl⟩)
          obtain ⟨_, rfl, rfl, hfz⟩ := hcc
          exact ⟨bl, hw, fun _ h => h, Later.refl _ _, h0.toFz hfz, by cases c' <;> first | rfl | simp [isFz0] at hfz⟩
      obtain ⟨bl1, g1, g2, g3, g4, g5⟩ := one
      obtain ⟨bl', h1, h2, h3, h4, h5, h6⟩ := frzL_sound cs mem1 bl1 (fun j => us (j + 1)) q' r' mem' g1 (fun j hj => by simpa using (hu (j + 1) (by simpa using hj)).mono (fun b hb => ⟨g2 b hb, rfl⟩) g3) hrest hq'
      refine ⟨bl', h1, fun b hb => h2 b (g2 b hb), g3.trans h3, by simp [h4], by simp only [List.all_cons, h5, g5, Bool.and_true], fun j hj => ?_⟩
      cases j with
      | zero => simpa using g4.mono (fun b hb => ⟨h2 b hb, rfl⟩)
      | succ j => simpa using h6 j (by simpa using hj)
    · cases h

theorem frzV_sound {v : AV} {u : Value} {q : Prop} {r : List AV} {mem' : Mem} (hw : WS X Y w0 w bl mem)
    (hu : VV w (Fr X w bl mem) bl mem u v) (h : frzV v mem = some (q, r, mem')) (hq : q) :
    ∃ bl', WS X Y w0 w bl' mem' ∧ (∀ b, Fr X w bl mem b → Fr X w bl' mem' b) ∧ Later mem mem' bl bl' ∧ r.length = u.cells.size ∧ r.all AV.isCell = true ∧
      ∀ j, j < r.length → FV w (Fr X w bl' mem') (u.cells.getD j undef) (r.getD j .undef) := by
  unfold frzV at h
  cases ho : v.okv with
  | false => rw [ho] at h; cases h
  | true =>
    rw [ho] at h
    have hs := hu.cells_size ho
    have hc := hu.cellsOf hs
    obtain ⟨bl', h1, h2, h3, h4, h5, h6⟩ := frzL_sound v.cells mem bl (fun j => u.cells.getD j undef) q r mem' hw (fun j hj => hc j hj) h hq
    exact ⟨bl', h1, h2, h3, by omega, h5, fun j hj => h6 j (by omega)⟩

end
end Go.Ab
