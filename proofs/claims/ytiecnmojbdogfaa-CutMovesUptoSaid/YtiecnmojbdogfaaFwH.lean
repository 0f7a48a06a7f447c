/- The instructions that make memory: each tells what its operation does. -/
import Derived.Test.YtiecnmojbdogfaaFwF
import Derived.Maps.AppendAt
import Derived.Great.BuildSlice
set_option linter.unusedSimpArgs false
set_option linter.unusedVariables false
namespace Go.Ab
open Go
def compE (P : Program) (site : Nat) (op : Op) : Option EI :=
  match op with
  | .store t p v => match tsize P t with
    | some n => some (.store n (Opd.of p) (Opd.of v))
    | none => none
  | .alloc t => match (P.info? t).bind (·.zero) with
    | some z => some (.alloc site (cvl z))
    | none => none
  | .box t v => some (.box site 0 (Opd.of v))
  | .buildSlice t len parts => match P.underlying t with
    | some (.slice e) => match P.info? e with
      | some ie => match ie.zero with
        | some z => bif Nat.beq z.cells.size ie.size && Nat.ble 1 ie.size && Nat.ble (len * ie.size) 16777216 then
            some (.lit site e ie.size len (cvl z) (parts.toList.map fun (i, x) => (i, Opd.of x))) else none
        | none => none
      | none => none
    | _ => none
  | .makeSlice t l c => match P.underlying t with
    | some (.slice e) => match P.info? e with
      | some ie => match ie.zero with
        | some z => bif Nat.beq z.cells.size ie.size && Nat.ble 1 ie.size then some (.make site e ie.size ie.bytes (cvl z) (Opd.of l) (Opd.of c)) else none
        | none => none
      | none => none
    | _ => none
  | .call c => match c.callee, c.args.toList, c.argTypes.toList with
    | .builtin .append, [x, y], [t, t'] => match P.underlying t with
      | some (.slice e) => match P.info? e with
        | some ie => match ie.zero with
          | some z => bif Nat.beq t t' && Nat.beq z.cells.size ie.size && Nat.ble 1 ie.size then some (.app site e ie.size ie.bytes (Opd.of x) (Opd.of y)) else none
          | none => none
        | none => none
      | _ => none
    | _, _, _ => none
  | _ => none

section
variable {P : Program} {X Y : Nat → Prop} {w0 w : World} {bl : Nat → Loc} {mem : Mem} {a : Act} {env : Env} {o : Oper}

theorem getD_segV (cs ds : List Value) (off n k : Nat) (hd : ds.length = n) (h : off + n ≤ cs.length) :
    (cs.take off ++ ds ++ cs.drop (off + n)).getD k undef = if off ≤ k ∧ k < off + n then ds.getD (k - off) undef else cs.getD k undef := by
  simp only [List.getD_eq_getElem?_getD]
  by_cases h1 : off ≤ k ∧ k < off + n
  · rw [if_pos h1, List.append_assoc, List.getElem?_append_right (by simp; omega), List.getElem?_append_left (by simp; omega)]
    congr 2
    simp; omega
  · rw [if_neg h1]
    by_cases h2 : k < off
    · rw [List.append_assoc, List.getElem?_append_left (by simp; omega), List.getElem?_take, if_pos h2]
    · rw [List.getElem?_append_right (by simp; omega), List.getElem?_drop]
      congr 2
      simp; omega

theorem oneCell_of {F : Nat → Prop} {v : Value} {c : AV} (h : VV w F bl mem v c) (hc : c.isCell = true) : v.oneCell' = true := by
  cases c with
  | undef => cases hc
  | agg => cases hc
  | tup => cases hc
  | _ =>
    first
      | (cases h with | fz h => cases h <;> rfl)
      | (obtain ⟨_, _, _, rfl, _⟩ := h.sl_inv; rfl)
      | (obtain ⟨_, rfl, _⟩ := h.ptr_inv; rfl)
      | (obtain ⟨_, rfl, _⟩ := h.rp_inv; rfl)
      | (obtain ⟨_, _, _, rfl, _⟩ := h.vs_inv; rfl)
      | (obtain ⟨_, _, _, rfl, _⟩ := h.sk_inv; rfl)
      | (obtain ⟨_, rfl, _⟩ := h.vp_inv; rfl)
      | (obtain ⟨_, rfl, _⟩ := h.mp_inv; rfl)
      | (obtain ⟨_, rfl, _⟩ := h.fn_inv; rfl)
      | (cases h with | fz h => cases h | mp => rfl)
      | (cases h with | fz h => cases h | it => rfl)

theorem oneCells_of {F : Nat → Prop} {u : Value} {cs : List AV} (hs : u.cells.size = cs.length) (h : ∀ j, j < cs.length → VV w F bl mem (u.cells.getD j undef) (cs.getD j .undef)) (hc : cs.all AV.isCell = true) :
    ∀ v ∈ u.cells.toList, v.oneCell' = true := by
  intro v hv
  obtain ⟨j, hj, rfl⟩ := List.mem_iff_getElem.1 hv
  simp only [Array.length_toList] at hj
  have h1 := h j (by omega)
  have e1 : u.cells.getD j undef = u.cells.toList[j] := by simp [hj]
  rw [e1] at h1
  refine oneCell_of h1 (List.all_eq_true.1 hc _ ?_)
  have hj' : j < cs.length := by omega
  rw [List.getD_eq_getElem?_getD, List.getElem?_eq_getElem hj', Option.getD_some]
  exact List.getElem_mem hj'

theorem run_storeVar_at {t : TypeId} {n : Nat} (hn : tsize P t = some n) {b ofs : Nat} {arr : Array Value} {e : TypeId} (hg : w.heap[b]? = some (.cells arr e (0, 0))) {v : Value} (hs : v.cells.size = n) (hfit : ofs + n ≤ arr.size)
    (h1 : ∀ u ∈ v.cells.toList, u.oneCell' = true) :
    (Instr.storeAt t (.pointer (some ⟨b, ofs, none⟩)) v).run P w = .ok () (w.setRow b (arr.toList.take ofs ++ v.cells.toList ++ arr.toList.drop (ofs + n)).toArray) := by
  obtain ⟨i, hi, hin⟩ := Option.map_eq_some_iff.1 hn
  have hl : v.cells.toList.length = n := by simpa using hs
  have := run_storeCells_at P b ofs e v.cells.toList 0 arr w hg (by rw [hl]; omega) h1
  simp only [Nat.add_zero] at this
  rw [hl] at this
  simp [Instr.storeAt, Instr.sureAddr, storeVar, sizeOf, typeInfo, hi, hin, hs, this]

theorem mkElt_cells {cs : List AV} (h : cs.all AV.isCell = true) : (mkElt cs).cells = cs := by
  unfold mkElt
  split
  · rename_i v
    cases v <;> first | rfl | simp [AV.isCell] at h
  · rfl

theorem newElt_cells {sz o n : Nat} {vs old : List AV} (hc : vs.all AV.isCell = true) (hn : vs.length = n) (ho : old.length = sz) (hon : o + n ≤ sz) : (newElt sz o n vs old).cells = old.take o ++ vs ++ old.drop (o + n) := by
  unfold newElt
  cases hb : Nat.beq n sz with
  | false => rfl
  | true =>
    have := Nat.eq_of_beq_eq_true hb
    have ho0 : o = 0 := by omega
    subst ho0
    simp only [cond_true]
    rw [mkElt_cells hc]
    simp
    omega

theorem storeVSound {c : Prop} {v : AV} {mem' : Mem} {t : TypeId} {p x : Operand} (ho : o.op = .store t p x) {n : Nat} (hn : tsize P t = some n) (hw : WS X Y w0 w bl mem) (hv : ∀ k, VV w (Fr X w bl mem) bl mem (a.tmps.getD k undef) (env k))
    (hs : storeV mem n ((Opd.of p).ev env) ((Opd.of x).ev env) = some (c, v, mem')) (h : c) : Eff P X Y w0 w bl mem a o v mem' := by
  unfold storeV at hs
  split at hs
  · rename_i id ver i ofs e1
    split at hs
    · rename_i ver' e sz m f hm
      have hp := VV.opd hv p
      have hx := VV.opd hv x
      rw [e1] at hp
      generalize hvs : ((Opd.of x).ev env).cells = vs at hs
      generalize hb : (((Opd.of x).ev env).okv && vs.all AV.isCell && Nat.beq vs.length n && Nat.ble (ofs + n) sz) = bb at hs
      cases bb with
      | false => cases hs
      | true =>
        cases hs
        obtain ⟨h0, h⟩ := h
        subst h0
        simp only [Bool.and_eq_true] at hb
        obtain ⟨⟨⟨b1, b2⟩, b3⟩, b4⟩ := hb
        have b3' := Nat.eq_of_beq_eq_true b3
        have b4' := Nat.le_of_ble_eq_true b4
        have f4 := hx.cells_size b1
        have f6 := hx.cellsOf f4
        rw [hvs] at f4 f6
        obtain ⟨_, _, hinv⟩ := hp.vp_inv
        obtain ⟨b, cc, hbl, hi, hpu⟩ := hinv _ _ _ _ hm
        have hob := hw.obj id
        rw [hm, hbl] at hob
        obtain ⟨hz, xs, ⟨hxl, hown⟩, hr⟩ := hob
        rcases hown with ⟨hv', _⟩ | ⟨g, cap, cur, hv', _, hh, hnc, hcm, hcs, htk⟩
        · simp [slv] at hv'
        · simp only [slv, Value.slice.injEq, Option.some.injEq, Addr.mk.injEq] at hv'
          obtain ⟨⟨rfl, _⟩, _, rfl⟩ := hv'
          have hone : ∀ u ∈ (a.eval x).cells.toList, u.oneCell' = true := oneCells_of f4 f6 b2
          have hfit := cells_le hi (n := n) b4'
          have hfit2 : m * sz ≤ cc * sz := Nat.mul_le_mul_right sz hnc
          have hrun := run_storeVar_at (P := P) (w := w) hn (ofs := i * sz + ofs) hh (v := a.eval x) (by omega) (by omega) hone
          have hsetH := setRow_heap w b cur (cur.toList.take (i * sz + ofs) ++ (a.eval x).cells.toList ++ cur.toList.drop (i * sz + ofs + n)).toArray e _ hh
          have hlen : (cur.toList.take (i * sz + ofs) ++ (a.eval x).cells.toList ++ cur.toList.drop (i * sz + ofs + n)).length = cc * sz := by simp; omega
          have hmv : (mem id).ver = ver := by rw [hm]; rfl
          obtain ⟨g1, g2, g3⟩ := WS.upd (w' := w.setRow b (cur.toList.take (i * sz + ofs) ++ (a.eval x).cells.toList ++ cur.toList.drop (i * sz + ofs + n)).toArray) hw id (.vrow ver e sz m (fun j => bif Nat.beq j i then newElt sz ofs n vs (f i).cells else f j)) (bl id) (by rw [hmv]; exact Nat.le_refl _) (fun _ => ⟨by rw [hm]; simp [Kept], rfl⟩) rfl rfl rfl (by simp)
            (fun b2 _ hb2 => setRow_other w b b2 _ (fun e => hb2 cc (by rw [hm]; rfl) (by rw [hbl, e])))
            (fun b2 c2 _ hb2 => ⟨.inr ⟨by rw [hm]; rfl, c2, hb2⟩, by simpa using (hw.own id b2 c2 (by rw [hm]; rfl) hb2).2.2⟩)
            (fun hF hk => by
              rw [hbl] at hF hk ⊢
              refine ⟨hz, (cur.toList.take (i * sz + ofs) ++ (a.eval x).cells.toList ++ cur.toList.drop (i * sz + ofs + n)).take (m * sz), ⟨by rw [List.length_take, hlen]; omega, .inr ⟨b, cc, _, rfl, Nat.zero_le _, hsetH, hnc, hcm, by simpa using hlen, rfl⟩⟩, fun q hq => ?_⟩
              have hgetX : ∀ k, k < m * sz → ((cur.toList.take (i * sz + ofs) ++ (a.eval x).cells.toList ++ cur.toList.drop (i * sz + ofs + n)).take (m * sz)).getD k undef = if i * sz + ofs ≤ k ∧ k < i * sz + ofs + n then (a.eval x).cells.toList.getD (k - (i * sz + ofs)) undef else xs.getD k undef := fun k hk => by
                have := getD_segV cur.toList (a.eval x).cells.toList (i * sz + ofs) n k (by simp; omega) (by simp; omega)
                have e3 : ((cur.toList.take (i * sz + ofs) ++ (a.eval x).cells.toList ++ cur.toList.drop (i * sz + ofs + n)).take (m * sz)).getD k undef = (cur.toList.take (i * sz + ofs) ++ (a.eval x).cells.toList ++ cur.toList.drop (i * sz + ofs + n)).getD k undef := by
                  simp only [List.getD_eq_getElem?_getD, List.getElem?_take, if_pos hk]
                have e4 : xs.getD k undef = cur.toList.getD k undef := by
                  rw [← htk]; simp only [List.getD_eq_getElem?_getD, List.getElem?_take, if_pos hk]
                rw [e3, this, e4]
              obtain ⟨r1, r2⟩ := hr q hq
              by_cases hqi : q = i
              · subst hqi
                have hel := newElt_cells b2 b3' r1 b4'
                simp only [Nat.beq_refl, cond_true]
                rw [hel]
                refine ⟨by simp; omega, fun j hj => ?_⟩
                have hkk := cells_le hq (n := 1) (show j + 1 ≤ sz by omega)
                rw [hgetX (q * sz + j) (by omega), getD_seg _ vs ofs n j b3' (by omega)]
                by_cases hj2 : ofs ≤ j ∧ j < ofs + n
                · rw [if_pos (by omega), if_pos hj2]
                  have := (f6 (j - ofs) (by omega)).mono hF hk
                  rw [show q * sz + j - (q * sz + ofs) = j - ofs by omega]
                  simpa [List.getD_eq_getElem?_getD] using this
                · rw [if_neg (by omega), if_neg hj2]
                  exact (r2 j hj).mono hF hk
              · simp only [beq_false_of_ne hqi, cond_false]
                refine ⟨r1, fun j hj => ?_⟩
                have hkk := cells_le hq (n := 1) (show j + 1 ≤ sz by omega)
                rw [hgetX (q * sz + j) (by omega), if_neg (by
                  intro ⟨h3, h4⟩
                  rcases Nat.lt_or_ge q i with hlt | hge
                  · have := cells_le hlt (n := 1) (show j + 1 ≤ sz by omega); omega
                  · have hgt : i < q := by omega
                    have := cells_le hgt (n := n) b4'; omega)]
                exact (r2 j hj).mono hF hk)
          refine ⟨undef, _, _, .inr ⟨?_, rfl⟩, g1, .fz (.undef _), g2, g3⟩
          simp [execOp, ho, hpu, hrun]
    · cases hs
  · cases hs

theorem storeSound {site : Nat} {i : EI} {c : Prop} {v : AV} {mem' : Mem} {t : TypeId} {p x : Operand} (ho : o.op = .store t p x) (hc : compE P site o.op = some i) (hw : WS X Y w0 w bl mem) (hv : ∀ k, VV w (Fr X w bl mem) bl mem (a.tmps.getD k undef) (env k))
    (hs : i.run env mem = some (c, v, mem')) (h : c) : Eff P X Y w0 w bl mem a o v mem' := by
  rw [ho] at hc
  simp only [compE] at hc
  split at hc <;> cases hc
  rename_i n hn
  simp only [EI.run] at hs
  split at hs
  · rename_i id ver ofs e1
    split at hs
    · rename_i ver' cs hm
      have hp := VV.opd hv p
      have hx := VV.opd hv x
      rw [e1] at hp
      generalize hb : (((Opd.of x).ev env).okv && ((Opd.of x).ev env).cells.all AV.isCell && Nat.beq ((Opd.of x).ev env).cells.length n && Nat.ble (ofs + n) cs.length) = bb at hs
      cases bb with
      | false => cases hs
      | true =>
        cases hs
        subst h
        simp only [Bool.and_eq_true] at hb
        obtain ⟨⟨⟨b1, b2⟩, b3⟩, b4⟩ := hb
        have b3' := Nat.eq_of_beq_eq_true b3
        have b4' := Nat.le_of_ble_eq_true b4
        obtain ⟨_, _, hinv⟩ := hp.ptr_inv
        obtain ⟨b, cc, hbl, hpu⟩ := hinv _ hm
        have hob := hw.obj id
        rw [hm, hbl] at hob
        obtain ⟨b', c', arr, e, hl, hh, hsz, hr⟩ := hob
        cases hl
        have hxs := hx.cells_size b1
        have hxc := hx.cellsOf hxs
        have hone := oneCells_of hxs hxc b2
        have hrun := run_storeVar_at (P := P) (w := w) hn (ofs := ofs) hh (v := a.eval x) (by omega) (by omega) hone
        have hsetH : (w.setRow b (arr.toList.take ofs ++ (a.eval x).cells.toList ++ arr.toList.drop (ofs + n)).toArray).heap[b]? = some (.cells (arr.toList.take ofs ++ (a.eval x).cells.toList ++ arr.toList.drop (ofs + n)).toArray e (0, 0)) := setRow_heap w b arr _ e _ hh
        have hmv : (mem id).ver = ver := by rw [hm]; rfl
        obtain ⟨g1, g2, g3⟩ := WS.upd (w' := w.setRow b (arr.toList.take ofs ++ (a.eval x).cells.toList ++ arr.toList.drop (ofs + n)).toArray) hw id (.var ver (cs.take ofs ++ ((Opd.of x).ev env).cells ++ cs.drop (ofs + n))) (bl id) (by rw [hmv]; exact Nat.le_refl _) (fun _ => ⟨by rw [hm]; simp [Kept]; omega, rfl⟩) rfl rfl rfl (by simp)
          (fun b2 _ hb2 => setRow_other w b b2 _ (fun e => hb2 cc (by rw [hm]; rfl) (by rw [hbl, e])))
          (fun b2 c2 _ hb2 => ⟨.inr ⟨by rw [hm]; rfl, c2, hb2⟩, by simpa using (hw.own id b2 c2 (by rw [hm]; rfl) hb2).2.2⟩)
          (fun hF hk => by
            rw [hbl] at hk ⊢
            refine ⟨b, cc, _, _, rfl, hsetH, by simp; omega, fun j hj => ?_⟩
            rw [getD_seg cs _ ofs n j b3' b4']
            have e2 : (arr.toList.take ofs ++ (a.eval x).cells.toList ++ arr.toList.drop (ofs + n)).toArray.getD j undef = (arr.toList.take ofs ++ (a.eval x).cells.toList ++ arr.toList.drop (ofs + n)).getD j undef := by simp [List.getD_eq_getElem?_getD]
            rw [e2, getD_segV arr.toList _ ofs n j (by simp; omega) (by simp; omega)]
            have hjlt : j < cs.length := by simp at hj; omega
            rw [hbl] at hF
            by_cases hj2 : ofs ≤ j ∧ j < ofs + n
            · rw [if_pos hj2, if_pos hj2]
              have := (hxc (j - ofs) (by omega)).mono hF hk
              simpa [List.getD_eq_getElem?_getD] using this
            · rw [if_neg hj2, if_neg hj2]
              have := (hr j hjlt).mono hF hk
              simpa [List.getD_eq_getElem?_getD] using this)
        refine ⟨undef, _, _, .inr ⟨?_, rfl⟩, g1, .fz (.undef _), g2, g3⟩
        simp [execOp, ho, hpu, hrun]
    · cases hs
  · rename_i id ver i ofs e1
    split at hs
    · rename_i p1 vs mem1 hfz
      have hx := VV.opd hv x
      split at hs
      · rename_i ver' e sz m f hm
        have hp := VV.opd hv p
        rw [e1] at hp
        generalize hb : (Nat.beq vs.length n && Nat.ble (ofs + n) sz) = bb at hs
        cases bb with
        | false => cases hs
        | true =>
          cases hs
          obtain ⟨hp1, h0, h⟩ := h
          subst h0
          obtain ⟨bl1, f1, f3, flat, f4, f5, f6⟩ := frzV_sound hw hx hfz hp1
          simp only [Bool.and_eq_true] at hb
          obtain ⟨b3, b4⟩ := hb
          have b3' := Nat.eq_of_beq_eq_true b3
          have b4' := Nat.le_of_ble_eq_true b4
          have hp' := hp.mono (fun b hb => ⟨f3 b hb, rfl⟩) flat
          obtain ⟨_, _, hinv⟩ := hp'.rp_inv
          obtain ⟨b, cc, hbl, hi, hpu⟩ := hinv _ _ _ _ hm
          have hob := f1.obj id
          rw [hm, hbl] at hob
          obtain ⟨hz, xs, ⟨hxl, hown⟩, hr⟩ := hob
          rcases hown with ⟨hv', _⟩ | ⟨g, cap, cur, hv', _, hh, hnc, hcm, hcs, htk⟩
          · simp [slv] at hv'
          · simp only [slv, Value.slice.injEq, Option.some.injEq, Addr.mk.injEq] at hv'
            obtain ⟨⟨rfl, _⟩, _, rfl⟩ := hv'
            have hone : ∀ u ∈ (a.eval x).cells.toList, u.oneCell' = true := oneCells_of (w := w) (bl := bl1) (mem := mem1) f4.symm (fun j hj => .fz (f6 j hj)) f5
            have hfit := cells_le hi (n := n) b4'
            have hfit2 : m * sz ≤ cc * sz := Nat.mul_le_mul_right sz hnc
            have hrun := run_storeVar_at (P := P) (w := w) hn (ofs := i * sz + ofs) hh (v := a.eval x) (by omega) (by omega) hone
            have hsetH := setRow_heap w b cur (cur.toList.take (i * sz + ofs) ++ (a.eval x).cells.toList ++ cur.toList.drop (i * sz + ofs + n)).toArray e _ hh
            have hlen : (cur.toList.take (i * sz + ofs) ++ (a.eval x).cells.toList ++ cur.toList.drop (i * sz + ofs + n)).length = cc * sz := by simp; omega
            have hmv : (mem1 id).ver = ver := by rw [hm]; rfl
            obtain ⟨g1, g2, g3⟩ := WS.upd (w' := w.setRow b (cur.toList.take (i * sz + ofs) ++ (a.eval x).cells.toList ++ cur.toList.drop (i * sz + ofs + n)).toArray) f1 id (.row ver e sz m (fun j => bif Nat.beq j i then newElt sz ofs n vs (f i).cells else f j)) (bl1 id) (by rw [hmv]; exact Nat.le_refl _) (fun _ => ⟨by rw [hm]; simp [Kept], rfl⟩) rfl rfl rfl (by simp)
              (fun b2 _ hb2 => setRow_other w b b2 _ (fun e => hb2 cc (by rw [hm]; rfl) (by rw [hbl, e])))
              (fun b2 c2 _ hb2 => ⟨.inr ⟨by rw [hm]; rfl, c2, hb2⟩, by simpa using (f1.own id b2 c2 (by rw [hm]; rfl) hb2).2.2⟩)
              (fun hF hk => by
                rw [hbl] at hF hk ⊢
                refine ⟨hz, (cur.toList.take (i * sz + ofs) ++ (a.eval x).cells.toList ++ cur.toList.drop (i * sz + ofs + n)).take (m * sz), ⟨by rw [List.length_take, hlen]; omega, .inr ⟨b, cc, _, rfl, Nat.zero_le _, hsetH, hnc, hcm, by simpa using hlen, rfl⟩⟩, fun q hq => ?_⟩
                have hgetX : ∀ k, k < m * sz → ((cur.toList.take (i * sz + ofs) ++ (a.eval x).cells.toList ++ cur.toList.drop (i * sz + ofs + n)).take (m * sz)).getD k undef = if i * sz + ofs ≤ k ∧ k < i * sz + ofs + n then (a.eval x).cells.toList.getD (k - (i * sz + ofs)) undef else xs.getD k undef := fun k hk => by
                  have := getD_segV cur.toList (a.eval x).cells.toList (i * sz + ofs) n k (by simp; omega) (by simp; omega)
                  have e3 : ((cur.toList.take (i * sz + ofs) ++ (a.eval x).cells.toList ++ cur.toList.drop (i * sz + ofs + n)).take (m * sz)).getD k undef = (cur.toList.take (i * sz + ofs) ++ (a.eval x).cells.toList ++ cur.toList.drop (i * sz + ofs + n)).getD k undef := by
                    simp only [List.getD_eq_getElem?_getD, List.getElem?_take, if_pos hk]
                  have e4 : xs.getD k undef = cur.toList.getD k undef := by
                    rw [← htk]; simp only [List.getD_eq_getElem?_getD, List.getElem?_take, if_pos hk]
                  rw [e3, this, e4]
                obtain ⟨r1, r2⟩ := hr q hq
                by_cases hqi : q = i
                · subst hqi
                  have hel := newElt_cells f5 b3' r1 b4'
                  simp only [Nat.beq_refl, cond_true]
                  rw [hel]
                  refine ⟨by simp; omega, fun j hj => ?_⟩
                  have hkk := cells_le hq (n := 1) (show j + 1 ≤ sz by omega)
                  rw [hgetX (q * sz + j) (by omega), getD_seg _ vs ofs n j b3' (by omega)]
                  by_cases hj2 : ofs ≤ j ∧ j < ofs + n
                  · rw [if_pos (by omega), if_pos hj2]
                    have := (f6 (j - ofs) (by omega)).mono hF
                    rw [show q * sz + j - (q * sz + ofs) = j - ofs by omega]
                    simpa [List.getD_eq_getElem?_getD] using this
                  · rw [if_neg (by omega), if_neg hj2]
                    exact (r2 j hj).mono hF
                · simp only [beq_false_of_ne hqi, cond_false]
                  refine ⟨r1, fun j hj => ?_⟩
                  have hkk := cells_le hq (n := 1) (show j + 1 ≤ sz by omega)
                  rw [hgetX (q * sz + j) (by omega), if_neg (by
                    intro ⟨h3, h4⟩
                    rcases Nat.lt_or_ge q i with hlt | hge
                    · have := cells_le hlt (n := 1) (show j + 1 ≤ sz by omega); omega
                    · have hgt : i < q := by omega
                      have := cells_le hgt (n := n) b4'; omega)]
                  exact (r2 j hj).mono hF)
            refine ⟨undef, _, _, .inr ⟨?_, rfl⟩, g1, .fz (.undef _), fun b hb => g2 b (f3 b hb), flat.trans g3⟩
            simp [execOp, ho, hpu, hrun]
      · cases hs
    · cases hs
  · exact storeVSound ho hn hw hv hs h

end
end Go.Ab
namespace Go.Ab
open Go
section
variable {P : Program} {X Y : Nat → Prop} {w0 w : World} {bl : Nat → Loc} {mem : Mem} {a : Act} {env : Env} {o : Oper} {site : Nat}

theorem blt_false {i n : Nat} (h : ¬ i < n) : Nat.blt i n = false := by
  cases hb : Nat.blt i n with
  | false => rfl
  | true => exact absurd (by simpa [Nat.blt_eq] using hb) h

theorem freshAlloc (hw : WS X Y w0 w bl mem) (site : Nat) (ob : Obj) (o' : AO) (cap : Nat) (hver : o'.ver = (mem site).ver + 1)
    (ho : ∀ (F' : Nat → Prop) (bl' : Nat → Loc) (mem' : Mem), (∀ b, Fr X w bl mem b → F' b ∧ (w.alloc ob).heap[b]? = w.heap[b]?) → Later mem mem' bl bl' → OO (w.alloc ob) F' bl' mem' o' (.blk w.heap.size cap)) :
    WS X Y w0 (w.alloc ob) (updL site (.blk w.heap.size cap) bl) (Mem.set site o' mem) ∧ (∀ b, Fr X w bl mem b → Fr X (w.alloc ob) (updL site (.blk w.heap.size cap) bl) (Mem.set site o' mem) b ∧ (w.alloc ob).heap[b]? = w.heap[b]?) ∧
      Later mem (Mem.set site o' mem) bl (updL site (.blk w.heap.size cap) bl) :=
  WS.upd hw site o' (.blk w.heap.size cap) (by omega) (fun g => by omega) rfl rfl rfl (by simp) (fun b hb _ => heap_alloc_old w ob hb) (fun b c _ h => by cases h; exact ⟨.inl (Nat.le_refl _), by simp⟩) (fun h1 h2 => ho _ _ _ h1 h2)

theorem WS.junk (hw : WS X Y w0 w bl mem) (ob : Obj) : WS X Y w0 (w.alloc ob) bl mem ∧ (∀ b, Fr X w bl mem b → Fr X (w.alloc ob) bl mem b ∧ (w.alloc ob).heap[b]? = w.heap[b]?) :=
  WS.grow hw rfl rfl rfl (by simp) (fun b hb => heap_alloc_old w ob hb)

theorem VV.new_ptr {F : Nat → Prop} {id ver b c : Nat} {cs : List AV} : VV w F (updL id (.blk b c) bl) (Mem.set id (.var ver cs) mem) (.pointer (some ⟨b, 0, none⟩)) (.ptr id ver 0) :=
  .ptr _ id ver 0 (by rw [set_same]; exact Nat.le_refl _) (fun cs' _ => ⟨b, c, updL_same _ _ _, rfl⟩)

theorem VV.new_sl {F : Nat → Prop} {id ver n e sz : Nat} {f : Nat → AV} {l : Loc} {u : Value} (hu : u = slv l n) : VV w F (updL id l bl) (Mem.set id (.row ver e sz n f) mem) u (.sl id ver n) := by
  have hform : ∃ A k c, u = .slice A k c := by rw [hu]; cases l <;> exact ⟨_, _, _, rfl⟩
  obtain ⟨A, k, c, rfl⟩ := hform
  refine .sl A k c id ver n (by rw [set_same]; exact Nat.le_refl _) (fun e' sz' m f' hm => ?_)
  rw [set_same] at hm
  cases hm
  exact ⟨Nat.le_refl _, by rw [updL_same]; exact hu⟩

theorem allocSound {i : EI} {c : Prop} {v : AV} {mem' : Mem} {t : TypeId} (ho : o.op = .alloc t) (hc : compE P site o.op = some i) (hw : WS X Y w0 w bl mem) (hv : ∀ k, VV w (Fr X w bl mem) bl mem (a.tmps.getD k undef) (env k))
    (hs : i.run env mem = some (c, v, mem')) (h : c) : Eff P X Y w0 w bl mem a o v mem' := by
  rw [ho] at hc
  simp only [compE] at hc
  split at hc <;> cases hc
  rename_i z hz
  obtain ⟨it, hit, hzz⟩ := Option.bind_eq_some_iff.1 hz
  cases hs
  obtain ⟨g1, g2, g3⟩ := freshAlloc hw site (.cells z.cells t) (.var ((mem site).ver + 1) (cvl z)) 0 rfl (fun F' bl' mem' h1 h2 => ⟨_, _, z.cells, t, rfl, heap_alloc_new w _, by simp [cvl], fun j hj => cvl_sound z j hj⟩)
  refine ⟨.pointer (some ⟨w.heap.size, 0, none⟩), _, _, .inl ?_, g1, VV.new_ptr, g2, g3⟩
  simp [execOp, ho, Instr.alloc, zeroValue, typeInfo, hit, hzz, newVar, newRow]

theorem boxSound {i : EI} {c : Prop} {v : AV} {mem' : Mem} {t : TypeId} {x : Operand} (ho : o.op = .box t x) (hc : compE P site o.op = some i) (hw : WS X Y w0 w bl mem) (hv : ∀ k, VV w (Fr X w bl mem) bl mem (a.tmps.getD k undef) (env k))
    (hs : i.run env mem = some (c, v, mem')) (h : c) : Eff P X Y w0 w bl mem a o v mem' := by
  rw [ho] at hc
  simp only [compE] at hc
  cases hc
  have hx := VV.opd hv x
  simp only [EI.run] at hs
  generalize hb : (((Opd.of x).ev env).okv && ((Opd.of x).ev env).cells.all AV.isCell) = bb at hs
  cases bb with
  | false => cases hs
  | true =>
    simp only [Bool.and_eq_true] at hb
    cases hs
    have hsz := hx.cells_size hb.1
    have hcl := hx.cellsOf hsz
    obtain ⟨g1, g2, g3⟩ := freshAlloc hw site (.cells (a.eval x).cells t) (.var ((mem site).ver + 1) ((Opd.of x).ev env).cells) 0 rfl (fun F' bl' mem' h1 h2 => ⟨_, _, (a.eval x).cells, t, rfl, heap_alloc_new w _, hsz, fun j hj => (hcl j hj).mono h1 h2⟩)
    refine ⟨.pointer (some ⟨w.heap.size, 0, none⟩), _, _, .inl ?_, g1, VV.new_ptr, g2, g3⟩
    simp [execOp, ho, Instr.box, newVar, newRow]

theorem cvs_cells (v : Value) : (cvs v).cells = [cvs v] := by unfold cvs; split <;> rfl
theorem mkElt_cvl (z : Value) : (mkElt (cvl z)).cells = cvl z := by
  unfold mkElt
  split
  · rename_i v hv
    have : v ∈ cvl z := by rw [hv]; simp
    simp only [cvl, List.mem_map] at this
    obtain ⟨u, _, rfl⟩ := this
    rw [cvs_cells, hv]
  · rfl

/-- What is known of the cells of a literal. -/
def Elts (w : World) (F : Nat → Prop) (sz : Nat) (cells : Array Value) (es : List AV) : Prop :=
  cells.size = es.length * sz ∧ ∀ i, i < es.length → (es.getD i .undef).cells.length = sz ∧ ∀ j, j < sz → FV w F (cells.getD (i * sz + j) undef) ((es.getD i .undef).cells.getD j .undef)

theorem litA_sound {sz : Nat} (hsz : 0 < sz) : ∀ (parts : List (Nat × Operand)) (es : List AV) (mem : Mem) (bl : Nat → Loc) (cells : Array Value) (q : Prop) (es' : List AV) (mem' : Mem), WS X Y w0 w bl mem → (∀ k, VV w (Fr X w bl mem) bl mem (a.tmps.getD k undef) (env k)) →
    Elts w (Fr X w bl mem) sz cells es → litA env sz (parts.map fun (i, x) => (i, Opd.of x)) es mem = some (q, es', mem') → q →
    ∃ bl' cells', Instr.fill (fun i => some (i * sz, sz)) cells (parts.map fun (i, x) => (i, a.eval x)) = some cells' ∧ WS X Y w0 w bl' mem' ∧ (∀ b, Fr X w bl mem b → Fr X w bl' mem' b) ∧ Later mem mem' bl bl' ∧ es'.length = es.length ∧ Elts w (Fr X w bl' mem') sz cells' es'
  | [], es, mem, bl, cells, q, es', mem', hw, hv, he, h, hq => by
    simp only [List.map_nil, litA, Option.some.injEq, Prod.mk.injEq] at h
    obtain ⟨_, rfl, rfl⟩ := h
    exact ⟨bl, cells, by simp [Instr.fill], hw, fun _ h => h, Later.refl _ _, rfl, he⟩
  | (i, x) :: rest, es, mem, bl, cells, q, es', mem', hw, hv, he, h, hq => by
    simp only [List.map_cons, litA] at h
    split at h
    · rename_i p cs mem1 hfz
      generalize hb : (Nat.beq cs.length sz && Nat.blt i es.length) = bb at h
      cases bb with
      | false => cases h
      | true =>
        simp only [cond_true] at h
        split at h <;> cases h
        rename_i q' hrest
        obtain ⟨hp, hq'⟩ := hq
        simp only [Bool.and_eq_true] at hb
        have b1 := Nat.eq_of_beq_eq_true hb.1
        have b2 : i < es.length := by simpa [Nat.blt_eq] using hb.2
        have hx := VV.opd hv x
        obtain ⟨bl1, f1, f3, flat, f4, f5, f6⟩ := frzV_sound hw hx hfz hp
        have hle := cells_le b2 (show 0 + sz ≤ sz by omega)
        have hfc := fold_cells (i * sz) (a.eval x).cells.toList 0 cells (by rw [he.1]; simp; omega)
        have he1 : Elts w (Fr X w bl1 mem1) sz (((a.eval x).cells.toList.zipIdx 0).foldl (fun cs (x : Value × Nat) => cs.setIfInBounds (i * sz + x.2) x.1) cells) (es.set i (mkElt cs)) := by
          refine ⟨by rw [hfc.1, he.1]; simp, fun q hq => ?_⟩
          simp only [List.length_set] at hq
          obtain ⟨r1, r2⟩ := he.2 q hq
          by_cases hqi : q = i
          · subst hqi
            have eq : (es.set q (mkElt cs)).getD q .undef = mkElt cs := by simp [List.getD_eq_getElem?_getD, hq]
            rw [eq, mkElt_cells f5]
            refine ⟨b1, fun j hj => ?_⟩
            rw [hfc.2, if_pos (by simp; omega)]
            have := f6 j (by omega)
            rw [show q * sz + j - (q * sz + 0) = j by omega]
            simpa [List.getD_eq_getElem?_getD] using this
          · have eq : (es.set i (mkElt cs)).getD q .undef = es.getD q .undef := by simp [List.getD_eq_getElem?_getD, List.getElem?_set_ne (Ne.symm hqi)]
            rw [eq]
            refine ⟨r1, fun j hj => ?_⟩
            rw [hfc.2, if_neg (by
              intro ⟨h3, h4⟩
              simp at h3 h4
              rcases Nat.lt_or_ge q i with hlt | hge
              · have := cells_le hlt (n := 1) (show j + 1 ≤ sz by omega); omega
              · have hgt : i < q := by omega
                have := cells_le hgt (show 0 + sz ≤ sz by omega); omega)]
            exact (r2 j hj).mono (fun b hb => ⟨f3 b hb, rfl⟩)
        obtain ⟨bl', cells', k1, k2, k3, klat, k4, k5⟩ := litA_sound hsz rest _ mem1 bl1 _ _ es' mem' f1 (fun k => (hv k).mono (fun b hb => ⟨f3 b hb, rfl⟩) flat) he1 hrest hq'
        refine ⟨bl', cells', ?_, k2, fun b hb => k3 b (f3 b hb), flat.trans klat, by simpa using k4, k5⟩
        simp only [List.map_cons, Instr.fill]
        rw [if_neg (by have h1 := f4; have h2 := he.1; simp; omega), ← Array.foldl_toList, Array.toList_zipIdx]
        exact k1
    · cases h

theorem rowOO {F : Nat → Prop} {bl' : Nat → Loc} {mem' : Mem} {ver e sz len cap : Nat} {cells : Array Value} {f : Nat → AV} (hz : 0 < sz) (hlc : len ≤ cap) (hcm : cap ≤ maxLen) (hcs : cells.size = cap * sz)
    (hr : ∀ i, i < len → (f i).cells.length = sz ∧ ∀ j, j < sz → FV (w.alloc (.cells cells e)) F (cells.getD (i * sz + j) undef) ((f i).cells.getD j .undef)) :
    OO (w.alloc (.cells cells e)) F bl' mem' (.row ver e sz len f) (.blk w.heap.size cap) := by
  have hle : len * sz ≤ cap * sz := Nat.mul_le_mul_right sz hlc
  refine ⟨hz, cells.toList.take (len * sz), ⟨by simp; omega, .inr ⟨w.heap.size, cap, cells, rfl, Nat.zero_le _, heap_alloc_new w _, hlc, hcm, hcs, rfl⟩⟩, fun i hi => ⟨(hr i hi).1, fun j hj => ?_⟩⟩
  have hlt := cells_le hi (n := 1) (show j + 1 ≤ sz by omega)
  have := (hr i hi).2 j hj
  have e1 : (cells.toList.take (len * sz)).getD (i * sz + j) undef = cells.getD (i * sz + j) undef := by
    simp only [List.getD_eq_getElem?_getD, List.getElem?_take]
    rw [if_pos (by omega)]
    simp
  rw [e1]
  exact this

theorem getD_made (zc : Array Value) (n k : Nat) (hz : 0 < zc.size) (hk : k < n) : (madeCells zc n).getD k undef = zc.getD (k % zc.size) undef := by
  have h1 : k % zc.size < zc.size := Nat.mod_lt _ hz
  simp [madeCells, hk, h1]

theorem litSound {i : EI} {c : Prop} {v : AV} {mem' : Mem} {t : TypeId} {len : Nat} {parts : Array (Nat × Operand)} (ho : o.op = .buildSlice t len parts) (hc : compE P site o.op = some i) (hw : WS X Y w0 w bl mem) (hv : ∀ k, VV w (Fr X w bl mem) bl mem (a.tmps.getD k undef) (env k))
    (hs : i.run env mem = some (c, v, mem')) (h : c) : Eff P X Y w0 w bl mem a o v mem' := by
  rw [ho] at hc
  simp only [compE] at hc
  split at hc
  · rename_i e ht
    split at hc
    · rename_i ie hie
      split at hc
      · rename_i z hz
        generalize hb : (Nat.beq z.cells.size ie.size && Nat.ble 1 ie.size && Nat.ble (len * ie.size) 16777216) = bb at hc
        cases bb with
        | false => cases hc
        | true =>
          simp only [Bool.and_eq_true] at hb
          cases hc
          have b1 := Nat.eq_of_beq_eq_true hb.1.1
          have b2 := Nat.le_of_ble_eq_true hb.1.2
          have b3 := Nat.le_of_ble_eq_true hb.2
          cases len with
          | zero =>
            simp only [EI.run] at hs
            split at hs <;> cases hs
            rename_i hp
            have hp0 : parts = #[] := by
              have : parts.toList = [] := by simpa using hp
              simpa using this
            subst hp0
            obtain ⟨g1, g2, g3⟩ := freshAlloc hw site (.cells #[] e) (.row ((mem site).ver + 1) e ie.size 0 (fun _ => .undef)) 0 rfl (fun F' bl' mem' h1 h2 => by
              refine rowOO (by omega) (Nat.le_refl _) (by simp only [maxLen]; omega) (by simp) (fun i hi => absurd hi (Nat.not_lt_zero _)))
            refine ⟨.slice (some ⟨w.heap.size, 0, none⟩) 0 0, _, _, .inl ?_, g1, VV.new_sl rfl, g2, g3⟩
            simp [execOp, ho, Instr.buildSlice, run_underlying ht, sizeOf, typeInfo, hie, newRow, Instr.fill, Array.range_zero']
          | succ len =>
            simp only [EI.run] at hs
            split at hs <;> cases hs
            rename_i p es mem1 hlit
            have hz1 : (cvl z).length = ie.size := by simp [cvl, b1]
            have he0 : Elts w (Fr X w bl mem) ie.size (madeCells z.cells ((len + 1) * ie.size)) (List.replicate (len + 1) (mkElt (cvl z))) := by
              refine ⟨by simp [size_madeCells], fun i hi => ?_⟩
              simp only [List.length_replicate] at hi
              have eq : (List.replicate (len + 1) (mkElt (cvl z))).getD i .undef = mkElt (cvl z) := by simp [List.getD_eq_getElem?_getD, hi]
              rw [eq, mkElt_cvl]
              refine ⟨hz1, fun j hj => ?_⟩
              have hlt := cells_le hi (n := 1) (show j + 1 ≤ ie.size by omega)
              rw [getD_made _ _ _ (by omega) (by omega), b1]
              have hm : (i * ie.size + j) % ie.size = j := by rw [Nat.mul_comm, Nat.mul_add_mod]; exact Nat.mod_eq_of_lt hj
              rw [hm]
              have : (cvl z).getD j .undef = cvs (z.cells.getD j undef) := by simp [cvl, List.getD_eq_getElem?_getD, b1, hj]
              rw [this]
              exact FV.cvs _
            obtain ⟨bl1, cells', k1, k2, k3, klat, k4, k5⟩ := litA_sound (by omega) parts.toList _ mem bl _ _ es mem1 hw hv he0 hlit h
            simp only [List.length_replicate] at k4
            have hrun : (Instr.buildSlice t (len + 1) (parts.map fun (i, x) => (i, a.eval x))).run P w = .ok (.slice (some ⟨w.heap.size, 0, none⟩) (len + 1) (len + 1)) (w.alloc (.cells cells' e)) := by
              refine run_buildSlice w t e (len + 1) _ cells' ie z ht hie hz (by omega) (by have := Nat.mul_le_mul_right ie.size (show 1 ≤ len + 1 by omega); rw [Nat.one_mul] at this; omega) ?_
              have hm : (parts.map fun (i, x) => (i, a.eval x)).toList = parts.toList.map fun (i, x) => (i, a.eval x) := by simp
              rw [hm]
              exact k1
            obtain ⟨g1, g2, g3⟩ := freshAlloc k2 site (.cells cells' e) (.row ((mem1 site).ver + 1) e ie.size (len + 1) (fun i => es.getD i .undef)) (len + 1) rfl (fun F' bl' mem' h1 h2 => by
              refine rowOO (by omega) (Nat.le_refl _) (by simp only [maxLen]; have := Nat.le_mul_of_pos_right (len + 1) (show 0 < ie.size by omega); omega) (by rw [k5.1, k4]) (fun i hi => ?_)
              obtain ⟨r1, r2⟩ := k5.2 i (by omega)
              exact ⟨r1, fun j hj => (r2 j hj).mono h1⟩)
            refine ⟨.slice (some ⟨w.heap.size, 0, none⟩) (len + 1) (len + 1), _, _, .inl ?_, g1, VV.new_sl rfl, fun b hb => g2 b (k3 b hb), klat.trans g3⟩
            simp [execOp, ho, hrun]
      · cases hc
    · cases hc
  · cases hc

theorem makeSound {i : EI} {c : Prop} {v : AV} {mem' : Mem} {t : TypeId} {l cp : Operand} (ho : o.op = .makeSlice t l cp) (hc : compE P site o.op = some i) (hw : WS X Y w0 w bl mem) (hv : ∀ k, VV w (Fr X w bl mem) bl mem (a.tmps.getD k undef) (env k))
    (hs : i.run env mem = some (c, v, mem')) (h : c) : Eff P X Y w0 w bl mem a o v mem' := by
  rw [ho] at hc
  simp only [compE] at hc
  split at hc
  · rename_i e ht
    split at hc
    · rename_i ie hie
      split at hc
      · rename_i z hz
        generalize hb : (Nat.beq z.cells.size ie.size && Nat.ble 1 ie.size) = bb at hc
        cases bb with
        | false => cases hc
        | true =>
          simp only [Bool.and_eq_true] at hb
          cases hc
          have b1 := Nat.eq_of_beq_eq_true hb.1
          have b2 := Nat.le_of_ble_eq_true hb.2
          have hl := VV.opd hv l
          have hcp := VV.opd hv cp
          simp only [EI.run] at hs
          split at hs <;> cases hs
          rename_i k1 n k2 m e1 e2
          rw [e1] at hl; rw [e2] at hcp
          obtain ⟨h1, h2, h3, h4⟩ := h
          have hz1 : (cvl z).length = ie.size := by simp [cvl, b1]
          have hrun := run_make (P := P) w t e ie z ht hie hz k1 k2 n m h1 h2 (by omega) h4
          obtain ⟨g1, g2, g3⟩ := freshAlloc hw site (.cells (madeCells z.cells (m.toNat * ie.size)) e) (.row ((mem site).ver + 1) e ie.size n.toNat (fun _ => mkElt (cvl z))) m.toNat rfl (fun F' bl' mem' _ _ => by
            refine rowOO (by omega) (by omega) (by simp only [maxLen]; omega) (size_madeCells _ _) (fun i hi => ?_)
            rw [mkElt_cvl]
            refine ⟨hz1, fun j hj => ?_⟩
            have hi' : i < m.toNat := by omega
            have hlt := cells_le hi' (n := 1) (show j + 1 ≤ ie.size by omega)
            rw [getD_made _ _ _ (by omega) (by omega), b1]
            have hm : (i * ie.size + j) % ie.size = j := by rw [Nat.mul_comm, Nat.mul_add_mod]; exact Nat.mod_eq_of_lt hj
            rw [hm]
            have : (cvl z).getD j .undef = cvs (z.cells.getD j undef) := by simp [cvl, List.getD_eq_getElem?_getD, b1, hj]
            rw [this]
            exact FV.cvs _)
          refine ⟨.slice (some ⟨w.heap.size, 0, none⟩) n.toNat m.toNat, _, _, .inl ?_, g1, VV.new_sl rfl, g2, g3⟩
          simp [execOp, ho, hl.int_inv, hcp.int_inv, hrun]
      · cases hc
    · cases hc
  · cases hc

/-- What an append takes its elements from. -/
theorem src_sound (hw : WS X Y w0 w bl mem) {y : Value} {v : AV} {p : Prop} {sz m : Nat} {g : Nat → AV} (hy : VV w (Fr X w bl mem) bl mem y v) (hs : appSrc sz v mem = some (p, m, g)) (hp : p) (hz : 0 < sz)
    (hc : ∀ i, i < m → (g i).cells.length = sz ∧ (g i).cells.all AV.isCell = true) :
    (m = 0 ∧ ∃ (ad : Option Addr) (c : Nat), y = .slice ad 0 c) ∨ (0 < m ∧ ∃ (ad : Addr) (c : Nat) (news : List Value), y = .slice (some ad) m c ∧ news.length = m * sz ∧ (∀ j u, news[j]? = some u → w.cell? (ad.add j) = some u) ∧ (∀ u ∈ news, u.oneCell' = true) ∧
      ∀ i, i < m → ∀ j, j < sz → FV w (Fr X w bl mem) (news.getD (i * sz + j) undef) ((g i).cells.getD j .undef)) := by
  have ones : ∀ (news : List Value), news.length = m * sz → (∀ i, i < m → ∀ j, j < sz → FV w (Fr X w bl mem) (news.getD (i * sz + j) undef) ((g i).cells.getD j .undef)) → ∀ u ∈ news, u.oneCell' = true := fun news hl hr u hu => by
    obtain ⟨k, hk, rfl⟩ := List.mem_iff_getElem.1 hu
    have hd : k / sz < m := by rw [Nat.div_lt_iff_lt_mul hz]; omega
    have hm : k % sz < sz := Nat.mod_lt _ hz
    have h1 := hr (k / sz) hd (k % sz) hm
    have e1 : k / sz * sz + k % sz = k := by rw [Nat.mul_comm]; exact Nat.div_add_mod k sz
    rw [e1] at h1
    have e2 : news.getD k undef = news[k] := by simp [List.getD_eq_getElem?_getD, hk]
    rw [e2] at h1
    obtain ⟨c1, c2⟩ := hc _ hd
    refine oneCell_of (bl := bl) (mem := mem) (.fz h1) (List.all_eq_true.1 c2 _ ?_)
    have hj' : k % sz < (g (k / sz)).cells.length := by omega
    rw [List.getD_eq_getElem?_getD, List.getElem?_eq_getElem hj', Option.getD_some]
    exact List.getElem_mem hj'
  cases v with
  | fs n f =>
    cases hs
    have hyf := hy.fs_inv
    cases hyf with
    | fs0 ad c _ => exact .inl ⟨rfl, ad, c, rfl⟩
    | fs ad _ c sz' _ val hb hcap hszp hl hval hr =>
      rcases Nat.eq_zero_or_pos m with h0 | h0
      · subst h0; exact .inl ⟨rfl, _, _, rfl⟩
      · have hszz : sz' = sz := by rw [← hl 0 h0]; exact (hc 0 h0).1
        subst hszz
        have hlen : ((List.range (m * sz')).map fun k => val (k / sz') (k % sz')).length = m * sz' := by simp
        have hel : ∀ i, i < m → ∀ j, j < sz' → ((List.range (m * sz')).map fun k => val (k / sz') (k % sz')).getD (i * sz' + j) undef = val i j := fun i hi j hj => by
          have hlt := cells_le hi (n := 1) (show j + 1 ≤ sz' by omega)
          have h1 : (i * sz' + j) / sz' = i := by rw [Nat.mul_comm, Nat.mul_add_div hz]; simp [Nat.div_eq_of_lt hj]
          have h2 : (i * sz' + j) % sz' = j := by rw [Nat.mul_comm, Nat.mul_add_mod]; exact Nat.mod_eq_of_lt hj
          simp [List.getD_eq_getElem?_getD, show i * sz' + j < m * sz' by omega, h1, h2]
        have hr' : ∀ i, i < m → ∀ j, j < sz' → FV w (Fr X w bl mem) (((List.range (m * sz')).map fun k => val (k / sz') (k % sz')).getD (i * sz' + j) undef) ((g i).cells.getD j .undef) := fun i hi j hj => by
          rw [hel i hi j hj]; exact hr i j hi hj
        refine .inr ⟨h0, ad, c, _, rfl, hlen, fun k u hu => ?_, ones _ hlen hr', hr'⟩
        have hk : k < m * sz' := by have := (List.getElem?_eq_some_iff.1 hu).1; simpa using this
        have hd : k / sz' < m := by rw [Nat.div_lt_iff_lt_mul hz]; omega
        have hm : k % sz' < sz' := Nat.mod_lt _ hz
        have e1 : k / sz' * sz' + k % sz' = k := by rw [Nat.mul_comm]; exact Nat.div_add_mod k sz'
        have hu' : val (k / sz') (k % sz') = u := by simpa [hk] using hu
        have := hval _ _ hd hm
        rw [e1, hu'] at this
        exact this
  | sl id ver n =>
    simp only [appSrc] at hs
    split at hs
    · rename_i ver' e' s' m' f' hm'
      generalize hb : Nat.beq s' sz = bb at hs
      cases bb with
      | false => cases hs
      | true =>
      cases hs
      have := Nat.eq_of_beq_eq_true hb
      subst this
      subst hp
      obtain ⟨_, _, _, _, hinv⟩ := hy.sl_inv
      obtain ⟨hle, rfl⟩ := hinv _ _ _ _ hm'
      have hob := hw.obj id
      rw [hm'] at hob
      obtain ⟨_, xs, hown, hr⟩ := hob
      rcases Nat.eq_zero_or_pos m with h0 | h0
      · subst h0
        cases bl id with
        | none => exact .inl ⟨rfl, _, _, rfl⟩
        | blk b c => exact .inl ⟨rfl, _, _, rfl⟩
      · cases hloc : bl id with
        | none =>
          rw [hloc] at hown
          rcases hown.2 with ⟨_, g0⟩ | ⟨_, _, _, hv', _⟩
          · omega
          · simp [slv] at hv'
        | blk b c =>
          rw [hloc] at hown
          have hmm : m * s' ≤ m' * s' := Nat.mul_le_mul_right s' hle
          have hlen : (xs.take (m * s')).length = m * s' := by rw [List.length_take, hown.1]; omega
          have hr' : ∀ i, i < m → ∀ j, j < s' → FV w (Fr X w bl mem) ((xs.take (m * s')).getD (i * s' + j) undef) ((g i).cells.getD j .undef) := fun i hi j hj => by
            have hlt := cells_le hi (n := 1) (show j + 1 ≤ s' by omega)
            have e1 : (xs.take (m * s')).getD (i * s' + j) undef = xs.getD (i * s' + j) undef := by
              simp only [List.getD_eq_getElem?_getD, List.getElem?_take]; rw [if_pos (by omega)]
            rw [e1]
            exact (hr i (by omega)).2 j hj
          refine .inr ⟨h0, ⟨b, 0, none⟩, c, xs.take (m * s'), rfl, hlen, fun k u hu => ?_, ones _ hlen hr', hr'⟩
          refine hown.cells (g := b) rfl k u ?_
          simp only [List.getElem?_take] at hu
          split at hu
          · exact hu
          · cases hu
    · cases hs
  | cap0 =>
    cases hs
    obtain rfl := hy.cap0_inv
    exact .inl ⟨rfl, none, 0, rfl⟩
  | _ => cases hs

theorem run_append_zero {t ty e : TypeId} {i : TypeInfo} (ht : P.underlying t = some (.slice e)) (hi : P.info? e = some i) (ad : Option Addr) (n cap : Nat) (hnc : n ≤ cap) (ad2 : Option Addr) (c2 : Nat) :
    (Builtin.append_ #[t, t] ty #[.slice ad n cap, .slice ad2 0 c2]).run P w = .ok (.slice ad n cap) w := by
  have hf : (Builtin.firstCells i.size 0 (.slice ad2 0 c2)).run P w = .ok #[] w := by
    cases ad2 <;> simp [Builtin.firstCells, loadCells, loadCellsFrom]
  cases ad with
  | none => simp [Builtin.append_, run_underlying ht, sizeOf, typeInfo, hi, Builtin.lenOf, hnc, hf]
  | some a => simp [Builtin.append_, run_underlying ht, sizeOf, typeInfo, hi, Builtin.lenOf, hnc, hf, storeCells]

theorem own_trunc {e sz n m : Nat} {l : Loc} {xs : List Value} (h : w.ownsRow 0 e sz (slv l m) m xs) (hn : n ≤ m) : w.ownsRow 0 e sz (slv l n) n (xs.take (n * sz)) := by
  have hle : n * sz ≤ m * sz := Nat.mul_le_mul_right sz hn
  obtain ⟨h1, h2⟩ := h
  refine ⟨by rw [List.length_take, h1]; omega, ?_⟩
  rcases h2 with ⟨hv, hz⟩ | ⟨g, cap, cur, hv, hb, hh, hnc, hcm, hcs, htk⟩
  · obtain rfl : n = 0 := by omega
    cases l with
    | none => exact .inl ⟨rfl, rfl⟩
    | blk b c => simp [slv] at hv
  · cases l with
    | none => simp [slv] at hv
    | blk b c =>
      simp only [slv, Value.slice.injEq, Option.some.injEq, Addr.mk.injEq] at hv
      obtain ⟨⟨rfl, _⟩, _, rfl⟩ := hv
      refine .inr ⟨b, c, cur, rfl, hb, hh, by omega, hcm, hcs, ?_⟩
      rw [← htk, List.take_take]
      congr 1
      omega

theorem appSound {i : EI} {c : Prop} {v : AV} {mem' : Mem} {cl : Call} (ho : o.op = .call cl) (hc : compE P site o.op = some i) (hw : WS X Y w0 w bl mem) (hv : ∀ k, VV w (Fr X w bl mem) bl mem (a.tmps.getD k undef) (env k))
    (hs : i.run env mem = some (c, v, mem')) (h : c) : Eff P X Y w0 w bl mem a o v mem' := by
  rw [ho] at hc
  obtain ⟨callee, ⟨args⟩, ⟨argTypes⟩⟩ := cl
  simp only [compE] at hc
  split at hc
  · rename_i x y t t' 
    split at hc
    · rename_i e ht
      split at hc
      · rename_i ie hie
        split at hc
        · rename_i z hz
          generalize hb : (Nat.beq t t' && Nat.beq z.cells.size ie.size && Nat.ble 1 ie.size) = bb at hc
          cases bb with
          | false => cases hc
          | true =>
            simp only [Bool.and_eq_true] at hb
            cases hc
            have b0 := Nat.eq_of_beq_eq_true hb.1.1
            subst b0
            have b1 := Nat.eq_of_beq_eq_true hb.1.2
            have b2 := Nat.le_of_ble_eq_true hb.2
            have hx := VV.opd hv x
            have hy := VV.opd hv y
            have hexec : ∀ {u : Value} {w' : World}, (Builtin.append_ #[t, t] o.type #[a.eval x, a.eval y]).run P w = .ok u w' → (execOp a.eval o).run P w = .ok (.value u) w' := fun hr => by
              simp [execOp, ho, resolve, invoke, builtin, hr]
            simp only [EI.run] at hs
            split at hs
            · cases hs
            · rename_i p m g hsrc
              split at hs
              · rename_i id ver n e1
                rw [e1] at hx
                split at hs
                · rename_i ver' e' s' n' f hm
                  generalize hb2 : (Nat.beq e' e && Nat.beq s' ie.size) = bb at hs
                  cases bb with
                  | false => cases hs
                  | true =>
                    simp only [Bool.and_eq_true] at hb2
                    have b3 := Nat.eq_of_beq_eq_true hb2.1
                    have b4 := Nat.eq_of_beq_eq_true hb2.2
                    subst b3 b4
                    cases hs
                    obtain ⟨hp, hcg, hve, hn, hby, h63⟩ := h
                    subst hve
                    have hd : (mem id).live = true := by rw [hm]; rfl
                    have hmv : (mem id).ver = ver := by rw [hm]; rfl
                    obtain ⟨_, _, _, _, hinv⟩ := hx.sl_inv
                    obtain ⟨hle, hxu⟩ := hinv _ _ _ _ hm
                    have hob := hw.obj id
                    rw [hm] at hob
                    obtain ⟨hzz, xs0, hown0, hr0⟩ := hob
                    have hown1 := own_trunc hown0 hn
                    obtain ⟨xs, hxs⟩ : ∃ xs, xs = xs0.take (n * ie.size) := ⟨_, rfl⟩
                    rw [← hxs] at hown1
                    have hown := hown1
                    have hr : ∀ i, i < n → (f i).cells.length = ie.size ∧ ∀ j, j < ie.size → FV w (Fr X w bl mem) (xs.getD (i * ie.size + j) undef) ((f i).cells.getD j .undef) := fun i hi => by
                      refine ⟨(hr0 i (by omega)).1, fun j hj => ?_⟩
                      have hlt := cells_le hi (n := 1) (show j + 1 ≤ ie.size by omega)
                      have e1 : xs.getD (i * ie.size + j) undef = xs0.getD (i * ie.size + j) undef := by
                        rw [hxs]; simp only [List.getD_eq_getElem?_getD, List.getElem?_take]; rw [if_pos (by omega)]
                      rw [e1]
                      exact (hr0 i (by omega)).2 j hj
                    have elt : ∀ (news : List Value), news.length = m * ie.size → (∀ i, i < m → ∀ j, j < ie.size → FV w (Fr X w bl mem) (news.getD (i * ie.size + j) undef) ((g i).cells.getD j .undef)) →
                        ∀ i, i < n + m → ((fun i => bif Nat.blt i n then f i else g (i - n)) i).cells.length = ie.size ∧ ∀ j, j < ie.size → FV w (Fr X w bl mem) ((xs ++ news).getD (i * ie.size + j) undef) (((fun i => bif Nat.blt i n then f i else g (i - n)) i).cells.getD j .undef) := fun news hl hnr i hi => by
                      by_cases hin : i < n
                      · have hb : Nat.blt i n = true := by simpa [Nat.blt_eq] using hin
                        simp only [hb, cond_true]
                        refine ⟨(hr i hin).1, fun j hj => ?_⟩
                        have hlt := cells_le hin (n := 1) (show j + 1 ≤ ie.size by omega)
                        have e1 : (xs ++ news).getD (i * ie.size + j) undef = xs.getD (i * ie.size + j) undef := by
                          simp only [List.getD_eq_getElem?_getD]; rw [List.getElem?_append_left (by rw [hown.1]; omega)]
                        rw [e1]
                        exact (hr i hin).2 j hj
                      · have hb : Nat.blt i n = false := blt_false hin
                        simp only [hb, cond_false]
                        have him : i - n < m := by omega
                        refine ⟨(hcg _ him).1, fun j hj => ?_⟩
                        have hge : n * ie.size ≤ i * ie.size := Nat.mul_le_mul_right ie.size (by omega)
                        have e1 : (xs ++ news).getD (i * ie.size + j) undef = news.getD ((i - n) * ie.size + j) undef := by
                          simp only [List.getD_eq_getElem?_getD]; rw [List.getElem?_append_right (by rw [hown.1]; omega), hown.1, Nat.sub_mul]; congr 2; omega
                        rw [e1]
                        exact hnr _ him j hj
                    rcases src_sound hw hy hsrc hp hzz hcg with ⟨hm0, ad, c2, hyu⟩ | ⟨hm0, ad, c2, news, hyu, hl, hnews, hone, hnr⟩
                    · subst hm0
                      have hrun : (Builtin.append_ #[t, t] o.type #[a.eval x, a.eval y]).run P w = .ok (slv (bl id) n) w := by
                        rw [hxu, hyu]
                        cases hloc : bl id with
                        | none =>
                          rw [hloc] at hown
                          exact run_append_zero ht hie none 0 0 (Nat.le_refl _) ad c2
                        | blk b cc =>
                          rw [hloc] at hown
                          rcases hown.2 with ⟨hv', _⟩ | ⟨_, _, _, hv', _, _, hnc, _⟩
                          · simp [slv] at hv'
                          · simp only [slv, Value.slice.injEq] at hv'
                            exact run_append_zero ht hie _ n cc (by omega) ad c2
                      obtain ⟨g1, g2, g3⟩ := WS.upd (w' := w) hw id (.row (ver + 1) e' ie.size (n + 0) (fun i => bif Nat.blt i n then f i else g (i - n))) (bl id) (by rw [hmv]; exact Nat.le_succ _) (fun g => by rw [hmv] at g; simp only [AO.ver] at g; omega) rfl rfl rfl (Nat.le_refl _) (fun _ _ _ => rfl) (fun b c _ hb => ⟨.inr ⟨hd, c, hb⟩, (hw.own id b c hd hb).2.2⟩) (fun h1 h2 => by
                        refine ⟨hzz, xs, hown, fun i hi => ?_⟩
                        obtain ⟨r1, r2⟩ := elt [] (by simp) (fun i hi => by omega) i hi
                        simp only [List.append_nil] at r2
                        exact ⟨r1, fun j hj => (r2 j hj).mono h1⟩)
                      exact ⟨slv (bl id) n, w, _, .inl (hexec hrun), g1, VV.new_sl rfl, g2, g3⟩
                    · obtain ⟨v', w', hr1, hr2, hr3, hr4, hr5⟩ := run_append_own_at (P := P) w 0 t o.type e' ie z ie.size ie.bytes ht hie hz rfl rfl b1 hzz (slv (bl id) n) n xs hown ad m c2 news hl hnews hone (by simp only [maxLen]; omega) hby (Nat.zero_le _)
                      have hrun : (Builtin.append_ #[t, t] o.type #[a.eval x, a.eval y]).run P w = .ok v' w' := by rw [hxu, hyu]; exact hr1
                      obtain ⟨b, cc, cur, rfl, _, hh, hnc, hcm, hcs, htk⟩ : ∃ b cc cur, v' = .slice (some ⟨b, 0, none⟩) (n + m) cc ∧ 0 ≤ b ∧ w'.heap[b]? = some (.cells cur e' (0, 0)) ∧ n + m ≤ cc ∧ cc ≤ maxLen ∧ cur.size = cc * ie.size ∧ cur.toList.take ((n + m) * ie.size) = xs ++ news := by
                        rcases hr2.2 with ⟨_, h0⟩ | h
                        · omega
                        · exact h
                      have hob5 : w.heap.size ≤ b ∨ ((mem id).live = true ∧ ∃ c0, bl id = .blk b c0) := by
                        rcases hr5 with h5 | h5
                        · right
                          refine ⟨hd, ?_⟩
                          cases hloc : bl id with
                          | none => rw [hloc] at h5; simp [slv, Value.ownBlock] at h5
                          | blk b' c' =>
                            rw [hloc] at h5
                            simp only [slv, Value.ownBlock, Option.some.injEq] at h5
                            exact ⟨c', by rw [h5]⟩
                        · left
                          simp only [Value.ownBlock, Option.some.injEq] at h5
                          omega
                      obtain ⟨g1, g2, g3⟩ := WS.upd (w' := w') hw id (.row (ver + 1) e' ie.size (n + m) (fun i => bif Nat.blt i n then f i else g (i - n))) (.blk b cc) (by rw [hmv]; exact Nat.le_succ _) (fun g => by rw [hmv] at g; simp only [AO.ver] at g; omega) hr3.os hr3.tape hr3.output hr3.size
                        (fun k hk hne => hr3.block k hk (fun e => by
                          cases hloc : bl id with
                          | none => rw [hloc] at e; simp [slv, Value.ownBlock] at e
                          | blk b' c' =>
                            rw [hloc] at e
                            simp only [slv, Value.ownBlock, Option.some.injEq] at e
                            exact hne c' hd (by rw [hloc, e])))
                        (fun b2 c _ hb => by cases hb; exact ⟨hob5, (Array.getElem?_eq_some_iff.1 hh).1⟩)
                        (fun h1 h2 => by
                          refine ⟨hzz, xs ++ news, hr2, fun i hi => ?_⟩
                          obtain ⟨r1, r2⟩ := elt news hl hnr i hi
                          exact ⟨r1, fun j hj => (r2 j hj).mono h1⟩)
                      exact ⟨_, w', _, .inl (hexec hrun), g1, VV.new_sl rfl, g2, g3⟩
                · cases hs
              · rename_i e1
                rw [e1] at hx
                obtain ⟨xad, hxad⟩ : ∃ xad : Option Addr, xad = none := ⟨_, rfl⟩
                have hxu := hx.cap0_inv
                rw [← hxad] at hxu
                split at hs
                · cases hs
                  rcases src_sound hw hy hsrc h b2 (fun i hi => by omega) with ⟨_, ad, c2, hyu⟩ | ⟨hm0, _⟩
                  · refine Eff.of_yld hw ⟨.slice xad 0 0, hexec ?_, by rw [hxad]; exact .fz .cap0⟩
                    rw [hxu, hyu]
                    exact run_append_zero ht hie xad 0 0 (Nat.le_refl _) ad c2
                  · omega
                · rename_i m
                  cases hs
                  obtain ⟨hp, hcg, hby, h63⟩ := h
                  rcases src_sound hw hy hsrc hp b2 hcg with ⟨hm0, _⟩ | ⟨hm0, ad, c2, news, hyu, hl, hnews, hone, hnr⟩
                  · omega
                  · have hrun : ∃ cells cap, (Builtin.append_ #[t, t] o.type #[a.eval x, a.eval y]).run P w = .ok (.slice (some ⟨w.heap.size, 0, none⟩) (m + 1) cap) (w.drew.alloc (.cells cells e)) ∧ m + 1 ≤ cap ∧ cap ≤ maxLen ∧ cells.size = cap * ie.size ∧ ∀ k, k < (m + 1) * ie.size → cells.getD k undef = news.getD k undef := by
                      have hge := grownCap_ge w (m + 1) 0 e
                      have hcm : grownCap w (m + 1) 0 e ≤ maxLen := grownCap_le_maxLen w (m + 1) 0 e (by simp only [maxLen]; omega)
                      refine ⟨news.toArray ++ Builtin.zeroCells z.cells (grownCap w (m + 1) 0 e - (m + 1)), grownCap w (m + 1) 0 e, ?_, hge, hcm, ?_, fun k hk => ?_⟩
                      · rw [hxu, hyu]
                        cases xad with
                        | none => exact run_append_nil (P := P) w t o.type e ie z ht hie hz ad (m + 1) c2 news hl hnews (by omega) (by omega) (by omega)
                        | some xa =>
                          have := run_append_grow (P := P) w t o.type e ie z ht hie hz xa 0 0 [] (by simp) (fun j v hj => by simp at hj) ad (m + 1) c2 news hl hnews (by omega) (by omega) (growslice_fits (by omega) (by rw [Nat.zero_add]; exact hby))
                          simpa using this
                      · simp only [Array.size_append, List.size_toArray, size_zeroCells, b1, hl, ← Nat.add_mul]
                        congr 1
                        omega
                      · have hk' : k < news.length := by rw [hl]; exact hk
                        simp [List.getD_eq_getElem?_getD, Array.getElem?_append, hk']
                    obtain ⟨cells, cap, hr1, hr2, hr3, hr4, hr5⟩ := hrun
                    obtain ⟨hwd, hFd⟩ := hw.drew
                    obtain ⟨g1, g2, g3⟩ := freshAlloc hwd site (.cells cells e) (.row ((mem site).ver + 1) e ie.size (m + 1) g) cap rfl (fun F' bl' mem' h1 h2 => by
                      refine rowOO (w := w.drew) b2 hr2 hr3 hr4 (fun i hi => ⟨(hcg i hi).1, fun j hj => ?_⟩)
                      have hlt := cells_le hi (n := 1) (show j + 1 ≤ ie.size by omega)
                      rw [hr5 _ (by omega)]
                      exact ((hnr i hi j hj).mono hFd).mono h1)
                    exact ⟨_, _, _, .inl (hexec hr1), g1, VV.new_sl rfl, fun b hb => g2 b (hFd b hb).1, g3⟩
              · cases hs
        · cases hc
      · cases hc
    · cases hc
  · cases hc

/-- **Every instruction that writes or makes memory tells what its operation does.** -/
theorem effSound {i : EI} {c : Prop} {v : AV} {mem' : Mem} (hc : compE P site o.op = some i) (hw : WS X Y w0 w bl mem) (hv : ∀ k, VV w (Fr X w bl mem) bl mem (a.tmps.getD k undef) (env k))
    (hs : i.run env mem = some (c, v, mem')) (h : c) : Eff P X Y w0 w bl mem a o v mem' := by
  cases ho : o.op with
  | store t p x => exact storeSound ho hc hw hv hs h
  | alloc t => exact allocSound ho hc hw hv hs h
  | box t x => exact boxSound ho hc hw hv hs h
  | buildSlice t len parts => exact litSound ho hc hw hv hs h
  | makeSlice t l cp => exact makeSound ho hc hw hv hs h
  | call cl => exact appSound ho hc hw hv hs h
  | _ => rw [ho] at hc; simp [compE] at hc

end
end Go.Ab
