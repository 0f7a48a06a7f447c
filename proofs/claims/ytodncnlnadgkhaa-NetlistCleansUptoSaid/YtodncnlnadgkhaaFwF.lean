/- The instructions that turn nothing: the theorem. -/
import Derived.Test.YtodncnlnadgkhaaFwE
set_option linter.unusedSimpArgs false
set_option linter.unusedVariables false
namespace Go.Ab
open Go

section
variable {P : Program} {X Y : Nat → Prop} {w0 w : World} {bl : Nat → Loc} {mem : Mem} {a : Act} {env : Env} {o : Oper}

theorem Yld.of {op : Op} (ho : o.op = op) {F : Nat → Prop} {v : AV} {u : Value} (s : Sem Value) (he : execOp a.eval { o with op := op } = (Bind.bind s fun x => Pure.pure (Next.value x))) (hr : s.run P w = .ok u w) (hu : VV w F bl mem u v) : Yld P w F bl mem a o v := by
  refine ⟨u, ?_, hu⟩
  have : execOp a.eval o = execOp a.eval { o with op := op } := by rw [← ho]
  rw [this, he]
  exact run_v hr

theorem run_bound {b : Option Operand} {d n : Int} {F : Nat → Prop} (hv : ∀ k, VV w F bl mem (a.tmps.getD k undef) (env k)) (h : bound env (b.map Opd.of) d = some n) :
    (∀ x, b = some x → ∃ k, a.eval x = .int k n) ∧ (b = none → n = d) := by
  cases b with
  | none => simp only [Option.map_none, bound, Option.some.injEq] at h; exact ⟨fun x hx => (by cases hx), fun _ => h.symm⟩
  | some x =>
    simp only [Option.map_some, bound] at h
    refine ⟨fun y hy => ?_, fun hh => (by cases hh)⟩
    cases hy
    have hx := VV.opd hv x
    split at h
    · rename_i k m he
      cases h
      rw [he] at hx
      exact ⟨k, hx.int_inv⟩
    · cases h

theorem sliceBounds_run {isS : Bool} {len cap : Nat} {lo hi : Option Operand} {l h : Int} {F : Nat → Prop} (hv : ∀ k, VV w F bl mem (a.tmps.getD k undef) (env k))
    (hl : bound env (lo.map Opd.of) 0 = some l) (hh : bound env (hi.map Opd.of) len = some h) (h0 : 0 ≤ l) (h1 : l ≤ h) (h2 : h ≤ cap) :
    (Instr.sliceBounds isS len cap (lo.map a.eval) (hi.map a.eval) none).run P w = .ok (l.toNat, h.toNat, cap) w := by
  obtain ⟨l1, l2⟩ := run_bound hv hl
  obtain ⟨g1, g2⟩ := run_bound hv hh
  have hcap : ((h.toNat : Nat) : Int) = h := by omega
  cases hi with
  | none =>
    have e := g2 rfl
    subst e
    cases lo with
    | none =>
      have e := l2 rfl
      subst e
      simp [Instr.sliceBounds]
    | some x =>
      obtain ⟨k, hk⟩ := l1 x rfl
      simp [Instr.sliceBounds, Instr.sliceBound, hk, asIntOf, h0, h1]
  | some y =>
    obtain ⟨k, hk⟩ := g1 y rfl
    have hh0 : 0 ≤ h := by omega
    cases lo with
    | none =>
      have e := l2 rfl
      subst e
      simp [Instr.sliceBounds, Instr.sliceBound, hk, asIntOf, hh0, h2]
    | some x =>
      obtain ⟨k', hk'⟩ := l1 x rfl
      have hlh : l ≤ max h 0 := by omega
      simp [Instr.sliceBounds, Instr.sliceBound, hk, hk', asIntOf, h0, hh0, h2, hlh]

theorem run_equal_bool {t : TypeId} {m n : Bool} (hut : P.underlying t = some .bool) : (Op.equal t (.bool m) (.bool n)).run P w = .ok (m == n) w := by
  have key : ∀ d, (Op.equalIn (d + 1) t (.bool m) (.bool n)).run P w = .ok (m == n) w := fun d => by simp [Op.equalIn, run_underlying hut]
  exact key 9999

theorem valSound {i : AI} {c : Prop} {v : AV} (hc : compV P o.op = some i) (hw : WS X Y w0 w bl mem) (hv : ∀ k, VV w (Fr X w bl mem) bl mem (a.tmps.getD k undef) (env k))
    (hs : i.val env mem = some (c, v)) (h : c) : Yld P w (Fr X w bl mem) bl mem a o v := by
  have hop := fun x => VV.opd hv x
  cases ho : o.op with
  | move x =>
    rw [ho] at hc; cases hc; cases hs
    exact ⟨a.eval x, by simp [execOp, ho], hop x⟩
  | assign x =>
    rw [ho] at hc; cases hc; cases hs
    exact ⟨a.eval x, by simp [execOp, ho], hop x⟩
  | nilCheck x =>
    rw [ho] at hc; cases hc
    have hx := hop x
    simp only [AI.val] at hs
    split at hs
    · rename_i id ver ofs he
      split at hs <;> cases hs
      rename_i ver' cs hm
      rw [he] at hx
      subst h
      obtain ⟨A, _, hh⟩ := hx.ptr_inv
      obtain ⟨b, c, _, hu⟩ := hh cs hm
      exact ⟨a.eval x, by simp [execOp, ho, hu], hx⟩
    · rename_i cs he
      cases hs
      rw [he] at hx
      obtain ⟨ad, val, hu, _⟩ := (read_sound hw hx).2.2 cs rfl
      exact ⟨a.eval x, by simp [execOp, ho, hu], hx⟩
    · rename_i f cs he
      cases hs
      rw [he] at hx
      obtain ⟨vs, hu, _⟩ := hx.fn_inv
      exact ⟨a.eval x, by simp [execOp, ho, hu], hx⟩
    · cases hs
  | pick c' x y =>
    rw [ho] at hc; cases hc
    have hx := hop c'
    simp only [AI.val] at hs
    split at hs <;> cases hs
    rename_i b he
    rw [he] at hx
    have hu := hx.bool_inv
    cases b with
    | true => exact ⟨a.eval x, by simp [execOp, ho, hu, asBool], hop x⟩
    | false => exact ⟨a.eval y, by simp [execOp, ho, hu, asBool], hop y⟩
  | binOp op t x y yt =>
    rw [ho] at hc
    simp only [compV] at hc
    have hx := hop x
    have hy := hop y
    split at hc
    · cases hc
      simp only [AI.val] at hs
      split at hs
      · rename_i k m k' n e1 e2
        rw [e1] at hx; rw [e2] at hy
        obtain ⟨u, hr, hf⟩ := run_binI (P := P) (w := w) (F := Fr X w bl mem) t hs h
        refine Yld.of ho (do eqGuard op t x y (a.eval x) (a.eval y); binOp op t (a.eval x) (a.eval y)) rfl ?_ (.fz hf)
        rw [hx.int_inv, hy.int_inv, Sem.run_bind, run_eqGuard_int]
        exact hr
      · cases hs
    · cases hc
      simp only [AI.val] at hs
      split at hs
      · rename_i m n e1 e2
        rw [e1] at hx; rw [e2] at hy
        obtain ⟨u, hr, hf⟩ := run_binS (P := P) (w := w) (F := Fr X w bl mem) t hs h
        refine Yld.of ho (do eqGuard op t x y (a.eval x) (a.eval y); binOp op t (a.eval x) (a.eval y)) rfl ?_ (.fz hf)
        rw [hx.str_inv, hy.str_inv, Sem.run_bind, run_eqGuard_str]
        exact hr
      · cases hs
    · rename_i hut
      cases op <;> simp only [] at hc <;> cases hc
      all_goals
        simp only [AI.val] at hs
        split at hs
        · rename_i m n e1 e2
          cases hs
          rw [e1] at hx; rw [e2] at hy
          refine Yld.of ho (do eqGuard _ t x y (a.eval x) (a.eval y); binOp _ t (a.eval x) (a.eval y)) rfl ?_ (.fz (.bool _))
          rw [hx.bool_inv, hy.bool_inv, Sem.run_bind, run_eqGuard_bool]
          simp only [binOp, Sem.run_bind, run_equal_bool hut, Result.andThen_ok]
          rfl
        · cases hs
    · cases hc
  | unOp op t x =>
    rw [ho] at hc
    have hx := hop x
    cases op <;> simp only [compV] at hc <;> cases hc
    all_goals
      simp only [AI.val] at hs
      split at hs
      · rename_i e1
        cases hs
        rw [e1] at hx
        first
          | (refine Yld.of ho (Op.unary _ (a.eval x)) rfl ?_ (.fz (.bool _)); rw [hx.bool_inv]; simp [Op.unary]; done)
          | (refine Yld.of ho (Op.unary _ (a.eval x)) rfl ?_ (.fz (.int _ _)); rw [hx.int_inv]; simp [Op.unary, Op.intArith]; done)
          | (refine Yld.of ho (Op.unary _ (a.eval x)) rfl ?_ (.fz (.int _ _)); rw [hx.int_inv]; simp [Op.unary, Op.intBits, bitop]; done)
      · cases hs
  | convert s d x =>
    rw [ho] at hc
    have hx := hop x
    simp only [compV] at hc
    split at hc <;> cases hc
    rename_i ks k h1 h2
    simp only [AI.val] at hs
    split at hs
    · rename_i k0 m e1
      cases hs
      rw [e1] at hx
      refine Yld.of ho (convert s d (a.eval x)) rfl ?_ (.fz (.int _ _))
      rw [hx.int_inv]
      simp [convert, run_underlying h1, run_underlying h2, Conv.intToInt]
    · cases hs
  | fieldAddr s x f =>
    rw [ho] at hc
    have hx := hop x
    simp only [compV] at hc
    split at hc
    · rename_i fd hf
      split at hc <;> cases hc
      rename_i n hn
      simp only [AI.val] at hs
      split at hs
      · rename_i id ver ofs e1
        split at hs <;> cases hs
        rename_i ver' cs hm
        subst h
        rw [e1] at hx
        obtain ⟨A, _, hh⟩ := hx.ptr_inv
        obtain ⟨b, c, hb, hu⟩ := hh cs hm
        refine Yld.of ho (Instr.fieldAt s (a.eval x) f) rfl (by rw [hu]; exact run_fieldAt hf hn _) ?_
        rw [add_lit]
        exact .ptr _ id ver _ hx.ptr_le (fun cs' _ => ⟨b, c, hb, rfl⟩)
      · rename_i id ver j ofs e1
        split at hs <;> cases hs
        rename_i ver' e sz m g hm
        subst h
        rw [e1] at hx
        obtain ⟨A, _, hh⟩ := hx.rp_inv
        obtain ⟨b, c, hb, hi, hu⟩ := hh e sz m g hm
        refine Yld.of ho (Instr.fieldAt s (a.eval x) f) rfl (by rw [hu]; exact run_fieldAt hf hn _) ?_
        rw [add_lit, Nat.add_assoc]
        refine .rp _ id ver j _ hx.rp_le (fun e' sz' m' f' hm' => ?_)
        rw [hm] at hm'
        cases hm'
        exact ⟨b, c, hb, hi, rfl⟩
      · rename_i cs e1
        cases hs
        rw [e1] at hx
        have hq := hx.fp_inv
        have hq' : ∃ u, a.eval x = u := ⟨_, rfl⟩
        obtain ⟨u, hu⟩ := hq'
        rw [hu] at hq
        cases hq with
          | fp ad _ val hb hval hr =>
            refine Yld.of ho (Instr.fieldAt s (a.eval x) f) rfl (by rw [hu]; exact run_fieldAt hf hn _) (.fz ?_)
            refine .fp _ _ (fun j => val (fd.offset + j)) (by rw [add_block]; exact hb) (fun j hj => ?_) (fun j hj => ?_)
            · rw [add_add]; exact hval _ (by simp at hj; omega)
            · rw [getD_drop]; exact hr _ (by simp at hj; omega)
      · simp only [fldV] at hs
        split at hs
        · rename_i id ver j ofs e1
          split at hs <;> cases hs
          rename_i ver' e sz m g hm
          subst h
          rw [e1] at hx
          obtain ⟨A, _, hh⟩ := hx.vp_inv
          obtain ⟨b, c, hb, hi, hu⟩ := hh e sz m g hm
          refine Yld.of ho (Instr.fieldAt s (a.eval x) f) rfl (by rw [hu]; exact run_fieldAt hf hn _) ?_
          rw [add_lit, Nat.add_assoc]
          refine .vp _ id ver j _ hx.vp_le (fun e' sz' m' f' hm' => ?_)
          rw [hm] at hm'
          cases hm'
          exact ⟨b, c, hb, hi, rfl⟩
        · cases hs
    · cases hc
  | indexAddr t x ix =>
    rw [ho] at hc
    have hx := hop x
    have hi := hop ix
    simp only [compV] at hc
    split at hc
    · rename_i e ht
      split at hc <;> cases hc
      rename_i sz hsz
      obtain ⟨ti, hti, htin⟩ := Option.map_eq_some_iff.1 hsz
      simp only [AI.val] at hs
      split at hs
      · rename_i n f k j e1 e2
        cases hs
        obtain ⟨h1, h2, h3⟩ := h
        rw [e1] at hx; rw [e2] at hi
        have hxf := hx.fs_inv
        have hq' : ∃ u, a.eval x = u := ⟨_, rfl⟩
        obtain ⟨u, hu⟩ := hq'
        rw [hu] at hxf
        cases hxf with
        | fs0 _ c _ => omega
        | fs ad _ c sz' _ val hb hcap hszp hl hval hr =>
          have hj : j.toNat < n := by omega
          have hszz : sz' = sz := by rw [← hl _ hj]; exact h3
          subst hszz
          refine Yld.of ho (Instr.indexAt t (a.eval x) (a.eval ix)) rfl (u := .pointer (some (ad.add (j.toNat * sz')))) ?_ (.fz ?_)
          · rw [hu, hi.int_inv]
            simp [Instr.indexAt, run_underlying ht, asIntOf, sizeOf, typeInfo, hti, htin, h1, h2]
          · refine .fp _ _ (fun q => val j.toNat q) (by rw [add_block]; exact hb) (fun q hq => ?_) (fun q hq => ?_)
            · rw [add_add]; exact hval _ _ hj (by rw [hl _ hj] at hq; exact hq)
            · exact hr _ _ hj (by rw [hl _ hj] at hq; exact hq)
      · rename_i id ver n k j e1 e2
        rw [e1] at hx; rw [e2] at hi
        split at hs
        · rename_i ver' e' sz' m f hm
          generalize hb : Nat.beq sz' sz = bb at hs
          cases bb with
          | false => cases hs
          | true =>
            cases hs
            have := Nat.eq_of_beq_eq_true hb
            subst this
            obtain ⟨h0, h1, h2⟩ := h
            subst h0
            obtain ⟨_, _, _, _, hh⟩ := hx.sl_inv
            obtain ⟨hle, hu⟩ := hh _ _ _ _ hm
            have hob := hw.obj id
            rw [hm] at hob
            obtain ⟨hz, xs, hown, hr⟩ := hob
            cases hloc : bl id with
            | none =>
              rw [hloc] at hown
              rcases hown.2 with ⟨_, hn0⟩ | ⟨_, _, _, hv', _⟩
              · omega
              · simp [slv] at hv'
            | blk b c =>
              rw [hloc] at hu
              refine Yld.of ho (Instr.indexAt t (a.eval x) (a.eval ix)) rfl (u := .pointer (some ⟨b, j.toNat * sz', none⟩)) ?_ ?_
              · rw [hu, hi.int_inv]
                simp [slv, Instr.indexAt, run_underlying ht, asIntOf, sizeOf, typeInfo, hti, htin, h1, h2, add_lit]
              · refine VV.rp _ id ver j.toNat 0 (by rw [hm]; exact Nat.le_refl _) (fun e2 sz2 m2 f2 hm2 => ?_)
                rw [hm] at hm2
                cases hm2
                exact ⟨b, c, hloc, by omega, by simp⟩
        · cases hs
      · simp only [idxV] at hs
        split at hs
        · rename_i k j e2
          rw [e2] at hi
          split at hs
          · rename_i id ver n e1
            rw [e1] at hx
            split at hs
            · rename_i ver' e' sz' m f hm
              generalize hb : Nat.beq sz' sz = bb at hs
              cases bb with
              | false => cases hs
              | true =>
                cases hs
                have := Nat.eq_of_beq_eq_true hb
                subst this
                obtain ⟨h0, h1, h2⟩ := h
                subst h0
                obtain ⟨_, _, _, _, hh⟩ := hx.vs_inv
                obtain ⟨hle, hu⟩ := hh _ _ _ _ hm
                have hob := hw.obj id
                rw [hm] at hob
                obtain ⟨hz, xs, hown, hr⟩ := hob
                cases hloc : bl id with
                | none =>
                  rw [hloc] at hown
                  rcases hown.2 with ⟨_, hn0⟩ | ⟨_, _, _, hv', _⟩
                  · omega
                  · simp [slv] at hv'
                | blk b c =>
                  rw [hloc] at hu
                  refine Yld.of ho (Instr.indexAt t (a.eval x) (a.eval ix)) rfl (u := .pointer (some ⟨b, j.toNat * sz', none⟩)) ?_ ?_
                  · rw [hu, hi.int_inv]
                    simp [slv, Instr.indexAt, run_underlying ht, asIntOf, sizeOf, typeInfo, hti, htin, h1, h2, add_lit]
                  · refine VV.vp _ id ver j.toNat 0 (by rw [hm]; exact Nat.le_refl _) (fun e2 sz2 m2 f2 hm2 => ?_)
                    rw [hm] at hm2
                    cases hm2
                    exact ⟨b, c, hloc, by omega, by simp⟩
            · cases hs
          · cases hs
        · cases hs
    · rename_i len e ht
      split at hc <;> cases hc
      rename_i sz hsz
      simp only [AI.val, aidxV] at hs
      split at hs
      · rename_i k j e2
        rw [e2] at hi
        split at hs
        · rename_i id ver ofs e1
          rw [e1] at hx
          split at hs <;> cases hs
          rename_i ver' cs hm
          obtain ⟨h0, h1, h2⟩ := h
          subst h0
          obtain ⟨A, _, hh⟩ := hx.ptr_inv
          obtain ⟨b, c, hb, hu⟩ := hh cs hm
          refine Yld.of ho (Instr.indexAt t (a.eval x) (a.eval ix)) rfl (by rw [hu, hi.int_inv]; exact run_arrAt ht hsz _ k j h1 h2) ?_
          rw [add_lit]
          exact .ptr _ id ver _ hx.ptr_le (fun cs' _ => ⟨b, c, hb, rfl⟩)
        · rename_i id ver q ofs e1
          rw [e1] at hx
          split at hs <;> cases hs
          rename_i ver' e0 sz0 m g hm
          obtain ⟨h0, h1, h2⟩ := h
          subst h0
          obtain ⟨A, _, hh⟩ := hx.rp_inv
          obtain ⟨b, c, hb, hiq, hu⟩ := hh e0 sz0 m g hm
          refine Yld.of ho (Instr.indexAt t (a.eval x) (a.eval ix)) rfl (by rw [hu, hi.int_inv]; exact run_arrAt ht hsz _ k j h1 h2) ?_
          rw [add_lit, Nat.add_assoc]
          refine .rp _ id ver q _ hx.rp_le (fun e' sz' m' f' hm' => ?_)
          rw [hm] at hm'
          cases hm'
          exact ⟨b, c, hb, hiq, rfl⟩
        · rename_i cs e1
          rw [e1] at hx
          cases hs
          obtain ⟨h1, h2⟩ := h
          have hq := hx.fp_inv
          have hq' : ∃ u, a.eval x = u := ⟨_, rfl⟩
          obtain ⟨u, hu⟩ := hq'
          rw [hu] at hq
          cases hq with
            | fp ad _ val hb hval hr =>
              refine Yld.of ho (Instr.indexAt t (a.eval x) (a.eval ix)) rfl (by rw [hu, hi.int_inv]; exact run_arrAt ht hsz _ k j h1 h2) (.fz ?_)
              refine .fp _ _ (fun q => val (j.toNat * sz + q)) (by rw [add_block]; exact hb) (fun q hq => ?_) (fun q hq => ?_)
              · rw [add_add]; exact hval _ (by simp at hq; omega)
              · rw [getD_drop]; exact hr _ (by simp at hq; omega)
        · cases hs
      · cases hs
    · cases hc
  | index t x ix =>
    rw [ho] at hc
    have hx := hop x
    have hi := hop ix
    simp only [compV] at hc
    split at hc <;> cases hc
    rename_i ht
    simp only [AI.val] at hs
    split at hs <;> cases hs
    rename_i s k j e1 e2
    rw [e1] at hx; rw [e2] at hi
    obtain ⟨h1, h2⟩ := h
    have hlt : j.toNat < s.data.size := by have : s.size = s.data.size := rfl; omega
    have hget : s[j.toNat]? = some (s.data.toList.getD j.toNat 0) := by
      have hlt' : j.toNat < s.size := hlt
      rw [getElem?_pos s j.toNat hlt']
      congr 1
      rw [List.getD_eq_getElem?_getD, List.getElem?_eq_getElem (by simpa using hlt), Option.getD_some, Array.getElem_toList]
      rfl
    refine Yld.of ho (Instr.index t (a.eval x) (a.eval ix)) rfl ?_ (.fz (.int _ _))
    rw [hx.str_inv, hi.int_inv]
    simp [Instr.index, asIntOf, run_underlying ht, h1, hget]
  | load t x =>
    rw [ho] at hc
    have hx := hop x
    simp only [compV] at hc
    split at hc <;> cases hc
    rename_i d n hu hn
    simp only [AI.val] at hs
    have key := read_sound hw hx
    have fin : ∀ (cs : List AV) (ad : Addr) (val : Nat → Value), a.eval x = .pointer (some ad) → (∀ j, j < cs.length → w.cell? (ad.add j) = some (val j)) → (∀ j, j < cs.length → VV w (Fr X w bl mem) bl mem (val j) (cs.getD j .undef)) → part? n (aggT P t) cs = some v → Yld P w (Fr X w bl mem) bl mem a o v := fun cs ad val e1 e2 e3 e4 => by
      obtain ⟨u, hr, hvv⟩ := run_loadVar_cells hu hn e4 e2 e3
      exact Yld.of ho (Instr.loadAt t (a.eval x)) rfl (by rw [e1]; simpa [Instr.loadAt, Instr.sureAddr] using hr) hvv
    split at hs
    · rename_i id ver ofs e1
      split at hs
      · rename_i ver' cs hm
        obtain ⟨v', hp, hh⟩ := Option.map_eq_some_iff.1 hs
        cases hh
        subst h
        obtain ⟨ad, val, g1, g2, g3⟩ := key.1 id ver ofs cs e1 hm
        exact fin _ ad val g1 g2 g3 hp
      · cases hs
    · rename_i id ver j ofs e1
      split at hs
      · rename_i ver' e sz m f hm
        obtain ⟨v', hp, hh⟩ := Option.map_eq_some_iff.1 hs
        cases hh
        obtain ⟨h0, h⟩ := h
        subst h0
        obtain ⟨ad, val, g1, g2, g3⟩ := key.2.1 id ver j ofs e sz m f e1 hm h
        exact fin _ ad val g1 g2 g3 hp
      · cases hs
    · rename_i cs e1
      obtain ⟨v', hp, hh⟩ := Option.map_eq_some_iff.1 hs
      cases hh
      obtain ⟨ad, val, g1, g2, g3⟩ := key.2.2 cs e1
      exact fin _ ad val g1 g2 g3 hp
    · simp only [loadV] at hs
      split at hs
      · rename_i id ver j ofs e1
        split at hs
        · rename_i ver' e sz m f hm
          obtain ⟨v', hp, hh⟩ := Option.map_eq_some_iff.1 hs
          cases hh
          obtain ⟨h0, h⟩ := h
          subst h0
          obtain ⟨ad, val, g1, g2, g3⟩ := read_soundV hw hx id ver j ofs e sz m f e1 hm h
          exact fin _ ad val g1 g2 g3 hp
        · cases hs
      · cases hs
  | field t x f =>
    rw [ho] at hc
    have hx := hop x
    simp only [compV] at hc
    split at hc
    · rename_i fd hf
      split at hc <;> cases hc
      rename_i d n hu hn
      simp only [AI.val] at hs
      split at hs
      · rename_i cs e1
        obtain ⟨v', hp, hh⟩ := Option.map_eq_some_iff.1 hs
        cases hh
        rw [e1] at hx
        obtain ⟨vs, hxu, hl, hr⟩ := hx.agg_inv
        obtain ⟨u, hrun, hvv⟩ := run_part hu hn hl hr hp
        refine Yld.of ho (Instr.field t (a.eval x) f) rfl ?_ hvv
        unfold fieldOf at hf
        split at hf
        · rename_i fs hfs
          rw [hxu]
          simpa [Instr.field, run_underlying hfs, hf, asAgg] using hrun
        · cases hf
      · cases hs
    · cases hc
  | extract x ix =>
    rw [ho] at hc; cases hc
    have hx := hop x
    simp only [AI.val] at hs
    split at hs
    · rename_i vs e1
      split at hs <;> cases hs
      rename_i v' hvx
      rw [e1] at hx
      obtain ⟨us, hxu, hl, hr⟩ := hx.tup_inv
      have hlt : ix < vs.length := (List.getElem?_eq_some_iff.1 hvx).1
      have := hr ix hlt
      rw [show vs.getD ix .undef = v by simp [List.getD_eq_getElem?_getD, hvx]] at this
      refine Yld.of ho (Instr.extract (a.eval x) ix) rfl ?_ this
      rw [hxu]
      have hlt' : ix < us.size := by omega
      simp [Instr.extract, hlt']
    · cases hs
  | build t parts =>
    rw [ho] at hc
    simp only [compV] at hc
    split at hc
    · rename_i it fs hit hut
      split at hc
      · rename_i z places hz hpl
        obtain ⟨ps, hps, hh⟩ := Option.map_eq_some_iff.1 hc
        cases hh
        simp only [AI.val] at hs
        obtain ⟨cs, hcs, hh⟩ := Option.map_eq_some_iff.1 hs
        cases hh
        obtain ⟨cells', e1, e2, e3⟩ := fill_sound places hv parts.toList ps z.cells (cvl z) cs hps (by simp [cvl]) (cvl_sound z) hcs
        refine Yld.of ho (Instr.build t (parts.map fun (i, x) => (i, a.eval x))) rfl ?_ (.agg cells' cs e2 e3)
        refine run_build w t _ cells' ?_
        simp only [Program.built, hit, hut, hz, hpl]
        simpa using e1
      · cases hc
    · rename_i it len e hit hut
      split at hc
      · rename_i z ie hz hie
        cases hc
        simp only [AI.val] at hs
        obtain ⟨cs, hcs, hh⟩ := Option.map_eq_some_iff.1 hs
        cases hh
        obtain ⟨cells', e1, e2, e3⟩ := fill_soundA ie.size hv parts.toList _ z.cells (cvl z) cs rfl (by simp [cvl]) (cvl_sound z) hcs
        refine Yld.of ho (Instr.build t (parts.map fun (i, x) => (i, a.eval x))) rfl ?_ (.agg cells' cs e2 e3)
        refine run_build w t _ cells' ?_
        simp only [Program.built, hit, hut, hz, hie]
        simpa using e1
      · cases hc
    · cases hc
  | makeFunc fn first caps =>
    rw [ho] at hc
    cases fn with
    | func f =>
      simp only [compV] at hc
      cases hb : Nat.beq first.size 0 with
      | false => rw [hb] at hc; cases hc
      | true =>
        rw [hb] at hc
        cases hc
        cases hs
        have hf0 : first = #[] := by have := Nat.eq_of_beq_eq_true hb; exact Array.eq_empty_of_size_eq_zero this
        subst hf0
        refine Yld.of ho (Instr.makeFunc (.func f) (#[].map a.eval) (caps.map a.eval)) rfl (u := .func (.func f) #[] (caps.map a.eval)) (by simp [Instr.makeFunc]) ?_
        refine .fn f _ _ (by simp) (fun j hj => ?_)
        have hj' : j < caps.size := by simpa using hj
        have := hop caps[j]
        simpa [List.getD_eq_getElem?_getD, hj'] using this
    | _ => simp [compV] at hc
  | slice t x lo hi mx =>
    rw [ho] at hc
    have hx := hop x
    cases mx with
    | some m => simp [compV] at hc
    | none =>
      simp only [compV] at hc
      split at hc
      · rename_i e ht
        split at hc <;> cases hc
        rename_i sz hsz
        obtain ⟨ti, hti, htin⟩ := Option.map_eq_some_iff.1 hsz
        simp only [AI.val] at hs
        split at hs
        · rename_i n f e1
          split at hs <;> cases hs
          rename_i l hh hl hhi
          obtain ⟨h1, h2, h3, h4⟩ := h
          rw [e1] at hx
          have hxf := hx.fs_inv
          have hq' : ∃ u, a.eval x = u := ⟨_, rfl⟩
          obtain ⟨u, hu⟩ := hq'
          rw [hu] at hxf
          have hlen : (hh - l).toNat = hh.toNat - l.toNat := by omega
          cases hxf with
          | fs0 ad c _ =>
            have hsb := sliceBounds_run (P := P) (isS := true) (len := 0) (cap := c) hv hl hhi h1 h2 (by omega)
            have e0 : (hh - l).toNat = 0 := by omega
            refine Yld.of ho (Instr.sliceAt t (a.eval x) (lo.map a.eval) (hi.map a.eval) none) rfl (u := .slice (if c = l.toNat then ad else ad.map (·.add (l.toNat * sz))) (hh.toNat - l.toNat) (c - l.toNat)) ?_ (.fz ?_)
            · rw [hu]
              simp [Instr.sliceAt, Instr.slice, run_underlying ht, hsb, sizeOf, typeInfo, hti, htin]
            · rw [← hlen, e0]; exact .fs0 _ _ _
          | fs ad _ c sz' _ val hb hcap hszp hlz hval hr =>
            have hsb := sliceBounds_run (P := P) (isS := true) (len := n) (cap := c) hv hl hhi h1 h2 (by omega)
            refine Yld.of ho (Instr.sliceAt t (a.eval x) (lo.map a.eval) (hi.map a.eval) none) rfl (u := .slice (if c = l.toNat then some ad else some (ad.add (l.toNat * sz))) (hh.toNat - l.toNat) (c - l.toNat)) ?_ (.fz ?_)
            · rw [hu]
              simp [Instr.sliceAt, Instr.slice, run_underlying ht, hsb, sizeOf, typeInfo, hti, htin]
            · rw [hlen]
              rcases Nat.eq_zero_or_pos (hh.toNat - l.toNat) with e0 | e0
              · rw [e0]; exact .fs0 _ _ _
              · have hne : ¬ c = l.toNat := by omega
                rw [if_neg hne]
                have hszz : sz' = sz := by rw [← hlz l.toNat (by omega)]; exact h4 (by omega)
                subst hszz
                refine .fs _ _ _ sz' _ (fun i j => val (l.toNat + i) j) (by rw [add_block]; exact hb) (by omega) hszp (fun i hi => hlz _ (by omega)) (fun i j hi hj => ?_) (fun i j hi hj => hr _ _ (by omega) hj)
                rw [add_add, ← Nat.add_assoc, ← Nat.add_mul]
                exact hval _ _ (by omega) hj
        · rename_i id ver n e1
          split at hs
          · rename_i ver' e' sz' m f hm
            generalize slcO (lo.map Opd.of) = bb at hs
            rw [e1] at hx
            obtain ⟨_, _, _, _, hinv⟩ := hx.sl_inv
            cases bb
            case true =>
              simp only [cond_true] at hs
              split at hs <;> cases hs
              rename_i l hh hl hhi
              obtain ⟨h0, hs0, h1, h2, h3⟩ := h
              subst h0
              subst hs0
              obtain ⟨hle, hu⟩ := hinv _ _ _ _ hm
              have hob := hw.obj id
              rw [hm] at hob
              obtain ⟨hz, xs, hown, hr⟩ := hob
              have hlen : (hh - l).toNat = hh.toNat - l.toNat := by omega
              cases hloc : bl id with
              | none =>
                rw [hloc] at hu hown
                have hn0 : m = 0 := by
                  rcases hown.2 with ⟨_, g⟩ | ⟨_, _, _, hv', _⟩
                  · exact g
                  · simp [slv] at hv'
                have hsb := sliceBounds_run (P := P) (isS := true) (len := 0) (cap := 0) hv hl (by rw [← hhi]; congr 1; omega) h1 h2 (by omega)
                refine Yld.of ho (Instr.sliceAt t (a.eval x) (lo.map a.eval) (hi.map a.eval) none) rfl (u := .slice none (hh.toNat - l.toNat) (0 - l.toNat)) ?_ (.sk _ _ _ id ver _ _ (by rw [hm]; exact Nat.le_refl _) (fun e2 sz2 m2 f2 hm2 => ?_))
                · rw [hu]
                  simp [slv, Instr.sliceAt, Instr.slice, run_underlying ht, hsb, sizeOf, typeInfo, hti, htin]
                · rw [hm] at hm2
                  cases hm2
                  exact ⟨by omega, by omega, fun h0 => by omega⟩
              | blk b c =>
                rw [hloc] at hu hown
                have hmc : m ≤ c := by
                  rcases hown.2 with ⟨hv', _⟩ | ⟨_, _, _, hv', _, _, g, _⟩
                  · simp [slv] at hv'
                  · simp [slv] at hv'; omega
                have hsb := sliceBounds_run (P := P) (isS := true) (len := n) (cap := c) hv hl hhi h1 h2 (by omega)
                refine Yld.of ho (Instr.sliceAt t (a.eval x) (lo.map a.eval) (hi.map a.eval) none) rfl (u := .slice (if c = l.toNat then some ⟨b, 0, none⟩ else some ((⟨b, 0, none⟩ : Addr).add (l.toNat * sz'))) (hh.toNat - l.toNat) (c - l.toNat)) ?_ (.sk _ _ _ id ver _ _ (by rw [hm]; exact Nat.le_refl _) (fun e2 sz2 m2 f2 hm2 => ?_))
                · rw [hu]
                  simp [slv, Instr.sliceAt, Instr.slice, run_underlying ht, hsb, sizeOf, typeInfo, hti, htin]
                · rw [hm] at hm2
                  cases hm2
                  refine ⟨by omega, by omega, fun h0 => ⟨b, c, hloc, ?_⟩⟩
                  rw [if_neg (by omega)]
                  simp [Addr.add, eq_comm]
            simp only [cond_false] at hs
            split at hs <;> cases hs
            rename_i hh hl hhi
            obtain ⟨h0, h1, h2⟩ := h
            subst h0
            obtain ⟨hle, hu⟩ := hinv _ _ _ _ hm
            have hob := hw.obj id
            rw [hm] at hob
            obtain ⟨hz, xs, hown, hr⟩ := hob
            have fin : ∀ u, (Instr.sliceAt t (a.eval x) (lo.map a.eval) (hi.map a.eval) none).run P w = .ok u w → u = slv (bl id) hh.toNat → Yld P w (Fr X w bl mem) bl mem a o (.sl id ver hh.toNat) := fun u hr hu' => by
              have hform : ∃ A k c, u = .slice A k c := by rw [hu']; cases bl id <;> exact ⟨_, _, _, rfl⟩
              obtain ⟨A, k, c, rfl⟩ := hform
              refine Yld.of ho (Instr.sliceAt t (a.eval x) (lo.map a.eval) (hi.map a.eval) none) rfl hr (.sl _ _ _ id ver _ (by rw [hm]; exact Nat.le_refl _) (fun e2 sz2 m2 f2 hm2 => ?_))
              rw [hm] at hm2
              cases hm2
              exact ⟨by omega, hu'⟩
            cases hloc : bl id with
            | none =>
              rw [hloc] at hu hown
              have hn0 : m = 0 := by
                rcases hown.2 with ⟨_, g⟩ | ⟨_, _, _, hv', _⟩
                · exact g
                · simp [slv] at hv'
              have hsb := sliceBounds_run (P := P) (isS := true) (len := 0) (cap := 0) hv hl (by rw [← hhi]; congr 1; omega) (Int.le_refl _) h1 (by omega)
              have hh0 : hh.toNat = 0 := by omega
              refine fin (.slice none 0 0) ?_ (by rw [hloc]; rfl)
              rw [hu]
              simp [slv, Instr.sliceAt, Instr.slice, run_underlying ht, hsb, sizeOf, typeInfo, hti, htin, hh0]
            | blk b c =>
              rw [hloc] at hu hown
              have hmc : m ≤ c := by
                rcases hown.2 with ⟨hv', _⟩ | ⟨_, _, _, hv', _, _, g, _⟩
                · simp [slv] at hv'
                · simp [slv] at hv'; omega
              have hsb := sliceBounds_run (P := P) (isS := true) (len := n) (cap := c) hv hl hhi (Int.le_refl _) h1 (by omega)
              refine fin (slv (bl id) hh.toNat) ?_ rfl
              rw [hu, hloc]
              simp [slv, Instr.sliceAt, Instr.slice, run_underlying ht, hsb, sizeOf, typeInfo, hti, htin, add_zero]
          · cases hs
        · rename_i e1
          split at hs <;> cases hs
          rename_i l hh hl hhi
          obtain ⟨rfl, rfl⟩ := h
          rw [e1] at hx
          have hu := hx.cap0_inv
          have hsb := sliceBounds_run (P := P) (isS := true) (len := 0) (cap := 0) hv hl hhi (Int.le_refl _) (Int.le_refl _) (by omega)
          refine Yld.of ho (Instr.sliceAt t (a.eval x) (lo.map a.eval) (hi.map a.eval) none) rfl (u := .slice none 0 0) ?_ (.fz .cap0)
          rw [hu]
          simp [Instr.sliceAt, Instr.slice, run_underlying ht, hsb, sizeOf, typeInfo, hti, htin, add_zero]
        · cases hs
      · rename_i ht
        cases hc
        simp only [AI.val] at hs
        split at hs
        · rename_i s e1
          split at hs <;> cases hs
          rename_i l hh hl hhi
          obtain ⟨h1, h2, h3⟩ := h
          rw [e1] at hx
          have hsb := sliceBounds_run (P := P) (isS := false) (len := s.size) (cap := s.size) hv hl hhi h1 h2 h3
          refine Yld.of ho (Instr.sliceAt t (a.eval x) (lo.map a.eval) (hi.map a.eval) none) rfl ?_ (.fz (.str _))
          rw [hx.str_inv]
          simp [Instr.sliceAt, Instr.slice, run_underlying ht, hsb]
        · cases hs
      · cases hc
  | call c =>
    rw [ho] at hc
    obtain ⟨callee, args, argTypes⟩ := c
    simp only [compV] at hc
    split at hc
    · rename_i b
      obtain ⟨args⟩ := args
      obtain ⟨argTypes⟩ := argTypes
      simp only at hc
      unfold compB at hc
      split at hc
      · rename_i x t
        have hx := hop x
        split at hc <;> cases hc
        · rename_i e ht
          have fin : ∀ (ad : Option Addr) (n c : Nat), a.eval x = .slice ad n c → v = .int .i64 n → Yld P w (Fr X w bl mem) bl mem a o v := fun ad n c hu hv' =>
            ⟨goInt n, by simp [execOp, ho, resolve, invoke, builtin, hu, Builtin.len_, run_underlying ht], by rw [hv']; exact .fz (.int _ _)⟩
          simp only [AI.val] at hs
          split at hs
          · rename_i n f e1
            cases hs
            rw [e1] at hx
            have hxf := hx.fs_inv
            have hq' : ∃ u, a.eval x = u := ⟨_, rfl⟩
            obtain ⟨u, hu⟩ := hq'
            rw [hu] at hxf
            cases hxf with
            | fs0 ad c _ => exact fin _ _ _ hu rfl
            | fs ad _ c sz' _ val hb hcap hszp hlz hval hr => exact fin _ _ _ hu rfl
          · rename_i id ver n e1
            split at hs <;> cases hs
            rename_i ver' e' sz' m f hm
            subst h
            rw [e1] at hx
            obtain ⟨_, _, _, _, hinv⟩ := hx.sl_inv
            obtain ⟨hle, hu⟩ := hinv _ _ _ _ hm
            have hob := hw.obj id
            rw [hm] at hob
            obtain ⟨hz, xs, hown, hr⟩ := hob
            cases hloc : bl id with
            | none =>
              rw [hloc] at hu hown
              have hn0 : m = 0 := by
                rcases hown.2 with ⟨_, g⟩ | ⟨_, _, _, hv', _⟩
                · exact g
                · simp [slv] at hv'
              exact fin none 0 0 hu (by rw [show n = 0 by omega])
            | blk b c =>
              rw [hloc] at hu
              exact fin _ _ _ hu rfl
          · rename_i e1
            cases hs
            rw [e1] at hx
            have hu := hx.cap0_inv
            exact fin _ _ _ hu rfl
          · simp only [lenV] at hs
            split at hs
            · rename_i id ver n e1
              split at hs <;> cases hs
              rename_i ver' e' sz' m f hm
              subst h
              rw [e1] at hx
              obtain ⟨_, _, _, _, hinv⟩ := hx.vs_inv
              obtain ⟨hle, hu⟩ := hinv _ _ _ _ hm
              have hob := hw.obj id
              rw [hm] at hob
              obtain ⟨hz, xs, hown, hr⟩ := hob
              cases hloc : bl id with
              | none =>
                rw [hloc] at hu hown
                have hn0 : m = 0 := by
                  rcases hown.2 with ⟨_, g⟩ | ⟨_, _, _, hv', _⟩
                  · exact g
                  · simp [slv] at hv'
                exact fin none 0 0 hu (by rw [show n = 0 by omega])
              | blk b c =>
                rw [hloc] at hu
                exact fin _ _ _ hu rfl
            · cases hs
        · rename_i ht
          simp only [AI.val] at hs
          split at hs <;> cases hs
          rename_i s e1
          rw [e1] at hx
          have hu := hx.str_inv
          exact ⟨goInt s.size, by simp [execOp, ho, resolve, invoke, builtin, hu, Builtin.len_, run_underlying ht], .fz (.int _ _)⟩
      · rename_i ts x y
        cases hc
        have hx := hop x
        have hy := hop y
        simp only [AI.val] at hs
        split at hs
        · rename_i k m k' n e1 e2
          cases hk : kEq k k' with
          | false => rw [hk] at hs; cases hs
          | true =>
            rw [hk] at hs
            cases hs
            rw [e1] at hx; rw [e2] at hy
            exact ⟨.int k (if n > m then n else m), by simp [execOp, ho, resolve, invoke, builtin, hx.int_inv, hy.int_inv, Builtin.max_, Builtin.max2], .fz (.int _ _)⟩
        · cases hs
      · rename_i ts x y
        cases hc
        have hx := hop x
        have hy := hop y
        simp only [AI.val] at hs
        split at hs
        · rename_i k m k' n e1 e2
          cases hk : kEq k k' with
          | false => rw [hk] at hs; cases hs
          | true =>
            rw [hk] at hs
            cases hs
            rw [e1] at hx; rw [e2] at hy
            exact ⟨.int k (if n < m then n else m), by simp [execOp, ho, resolve, invoke, builtin, hx.int_inv, hy.int_inv, Builtin.min_, Builtin.min2], .fz (.int _ _)⟩
        · cases hs
      · cases hc
    · cases hc
  | _ => rw [ho] at hc; simp [compV] at hc

end
end Go.Ab
