/- The instructions that write or make memory: each tells what its operation does. -/
import Derived.Test.YtodncnlnadgkhaaFwG
set_option linter.unusedSimpArgs false
set_option linter.unusedVariables false
namespace Go.Ab
open Go

def compE (P : Program) (site : Nat) (op : Op) : Option EI :=
  match op with
  | .store t p v => match tsize P t with
    | some n => some (.store n (Opd.of p) (Opd.of v))
    | none => none
  | .alloc t => match (P.info? t).bind (·.zero) with
    | some z => some (.alloc site (cvl z))
    | none => none
  | .box t v => some (.box site 0 (Opd.of v))
  | .buildSlice t len parts => match P.underlying t with
    | some (.slice e) => match P.info? e with
      | some ie => match ie.zero with
        | some z => bif Nat.beq z.cells.size ie.size && Nat.ble 1 ie.size && Nat.ble (len * ie.size) 16777216 then
            some (.lit site e ie.size len (cvl z) (parts.toList.map fun (i, x) => (i, Opd.of x))) else none
        | none => none
      | none => none
    | _ => none
  | .makeSlice t l c => match P.underlying t with
    | some (.slice e) => match P.info? e with
      | some ie => match ie.zero with
        | some z => bif Nat.beq z.cells.size ie.size && Nat.ble 1 ie.size then some (.make site e ie.size ie.bytes (cvl z) (Opd.of l) (Opd.of c)) else none
        | none => none
      | none => none
    | _ => none
  | .call c => match c.callee, c.args.toList, c.argTypes.toList with
    | .builtin .append, [x, y], [t, t'] => match P.underlying t with
      | some (.slice e) => match P.info? e with
        | some ie => match ie.zero with
          | some z => bif Nat.beq t t' && Nat.beq z.cells.size ie.size && Nat.ble 1 ie.size then some (.app site e ie.size ie.bytes (Opd.of x) (Opd.of y)) else none
          | none => none
        | none => none
      | _ => none
    | _, _, _ => none
  | _ => none

section
variable {P : Program} {X Y : Nat → Prop} {w0 w : World} {bl : Nat → Loc} {mem : Mem} {a : Act} {env : Env} {o : Oper}

theorem getD_segV (cs ds : List Value) (off n k : Nat) (hd : ds.length = n) (h : off + n ≤ cs.length) :
    (cs.take off ++ ds ++ cs.drop (off + n)).getD k undef = if off ≤ k ∧ k < off + n then ds.getD (k - off) undef else cs.getD k undef := by
  simp only [List.getD_eq_getElem?_getD]
  by_cases h1 : off ≤ k ∧ k < off + n
  · rw [if_pos h1, List.append_assoc, List.getElem?_append_right (by simp; omega), List.getElem?_append_left (by simp; omega)]
    congr 2
    simp; omega
  · rw [if_neg h1]
    by_cases h2 : k < off
    · rw [List.append_assoc, List.getElem?_append_left (by simp; omega), List.getElem?_take, if_pos h2]
    · rw [List.getElem?_append_right (by simp; omega), List.getElem?_drop]
      congr 2
      simp; omega

theorem oneCell_of {F : Nat → Prop} {v : Value} {c : AV} (h : VV w F bl mem v c) (hc : c.isCell = true) : v.oneCell' = true := by
  cases c with
  | undef => cases hc
  | agg => cases hc
  | tup => cases hc
  | _ =>
    first
      | (cases h with | fz h => cases h <;> rfl)
      | (obtain ⟨_, _, _, rfl, _⟩ := h.sl_inv; rfl)
      | (obtain ⟨_, rfl, _⟩ := h.ptr_inv; rfl)
      | (obtain ⟨_, rfl, _⟩ := h.rp_inv; rfl)
      | (obtain ⟨_, _, _, rfl, _⟩ := h.vs_inv; rfl)
      | (obtain ⟨_, _, _, rfl, _⟩ := h.sk_inv; rfl)
      | (obtain ⟨_, rfl, _⟩ := h.vp_inv; rfl)
      | (obtain ⟨_, rfl, _⟩ := h.mp_inv; rfl)
      | (obtain ⟨_, rfl, _⟩ := h.fn_inv; rfl)
      | (cases h with | fz h => cases h | mp => rfl)

theorem oneCells_of {F : Nat → Prop} {u : Value} {cs : List AV} (hs : u.cells.size = cs.length) (h : ∀ j, j < cs.length → VV w F bl mem (u.cells.getD j undef) (cs.getD j .undef)) (hc : cs.all AV.isCell = true) :
    ∀ v ∈ u.cells.toList, v.oneCell' = true := by
  intro v hv
  obtain ⟨j, hj, rfl⟩ := List.mem_iff_getElem.1 hv
  simp only [Array.length_toList] at hj
  have h1 := h j (by omega)
  have e1 : u.cells.getD j undef = u.cells.toList[j] := by simp [hj]
  rw [e1] at h1
  refine oneCell_of h1 (List.all_eq_true.1 hc _ ?_)
  have hj' : j < cs.length := by omega
  rw [List.getD_eq_getElem?_getD, List.getElem?_eq_getElem hj', Option.getD_some]
  exact List.getElem_mem hj'

theorem run_storeVar_at {t : TypeId} {n : Nat} (hn : tsize P t = some n) {b ofs : Nat} {arr : Array Value} {e : TypeId} (hg : w.heap[b]? = some (.cells arr e (0, 0))) {v : Value} (hs : v.cells.size = n) (hfit : ofs + n ≤ arr.size)
    (h1 : ∀ u ∈ v.cells.toList, u.oneCell' = true) :
    (Instr.storeAt t (.pointer (some ⟨b, ofs, none⟩)) v).run P w = .ok () (w.setRow b (arr.toList.take ofs ++ v.cells.toList ++ arr.toList.drop (ofs + n)).toArray) := by
  obtain ⟨i, hi, hin⟩ := Option.map_eq_some_iff.1 hn
  have hl : v.cells.toList.length = n := by simpa using hs
  have := run_storeCells_at P b ofs e v.cells.toList 0 arr w hg (by rw [hl]; omega) h1
  simp only [Nat.add_zero] at this
  rw [hl] at this
  simp [Instr.storeAt, Instr.sureAddr, storeVar, sizeOf, typeInfo, hi, hin, hs, this]

theorem mkElt_cells {cs : List AV} (h : cs.all AV.isCell = true) : (mkElt cs).cells = cs := by
  unfold mkElt
  split
  · rename_i v
    cases v <;> first | rfl | simp [AV.isCell] at h
  · rfl

theorem newElt_cells {sz o n : Nat} {vs old : List AV} (hc : vs.all AV.isCell = true) (hn : vs.length = n) (ho : old.length = sz) (hon : o + n ≤ sz) : (newElt sz o n vs old).cells = old.take o ++ vs ++ old.drop (o + n) := by
  unfold newElt
  cases hb : Nat.beq n sz with
  | false => rfl
  | true =>
    have := Nat.eq_of_beq_eq_true hb
    have ho0 : o = 0 := by omega
    subst ho0
    simp only [cond_true]
    rw [mkElt_cells hc]
    simp
    omega

theorem storeVSound {c : Prop} {v : AV} {mem' : Mem} {t : TypeId} {p x : Operand} (ho : o.op = .store t p x) {n : Nat} (hn : tsize P t = some n) (hw : WS X Y w0 w bl mem) (hv : ∀ k, VV w (Fr X w bl mem) bl mem (a.tmps.getD k undef) (env k))
    (hs : storeV mem n ((Opd.of p).ev env) ((Opd.of x).ev env) = some (c, v, mem')) (h : c) : Eff P X Y w0 w bl mem a o v mem' := by
  unfold storeV at hs
  split at hs
  · rename_i id ver i ofs e1
    split at hs
    · rename_i ver' e sz m f hm
      have hp := VV.opd hv p
      have hx := VV.opd hv x
      rw [e1] at hp
      generalize hvs : ((Opd.of x).ev env).cells = vs at hs
      generalize hb : (((Opd.of x).ev env).okv && vs.all AV.isCell && Nat.beq vs.length n && Nat.ble (ofs + n) sz) = bb at hs
      cases bb with
      | false => cases hs
      | true =>
        cases hs
        obtain ⟨h0, h⟩ := h
        subst h0
        simp only [Bool.and_eq_true] at hb
        obtain ⟨⟨⟨b1, b2⟩, b3⟩, b4⟩ := hb
        have b3' := Nat.eq_of_beq_eq_true b3
        have b4' := Nat.le_of_ble_eq_true b4
        have f4 := hx.cells_size b1
        have f6 := hx.cellsOf f4
        rw [hvs] at f4 f6
        obtain ⟨_, _, hinv⟩ := hp.vp_inv
        obtain ⟨b, cc, hbl, hi, hpu⟩ := hinv _ _ _ _ hm
        have hob := hw.obj id
        rw [hm, hbl] at hob
        obtain ⟨hz, xs, ⟨hxl, hown⟩, hr⟩ := hob
        rcases hown with ⟨hv', _⟩ | ⟨g, cap, cur, hv', _, hh, hnc, hcm, hcs, htk⟩
        · simp [slv] at hv'
        · simp only [slv, Value.slice.injEq, Option.some.injEq, Addr.mk.injEq] at hv'
          obtain ⟨⟨rfl, _⟩, _, rfl⟩ := hv'
          have hone : ∀ u ∈ (a.eval x).cells.toList, u.oneCell' = true := oneCells_of f4 f6 b2
          have hfit := cells_le hi (n := n) b4'
          have hfit2 : m * sz ≤ cc * sz := Nat.mul_le_mul_right sz hnc
          have hrun := run_storeVar_at (P := P) (w := w) hn (ofs := i * sz + ofs) hh (v := a.eval x) (by omega) (by omega) hone
          have hsetH := setRow_heap w b cur (cur.toList.take (i * sz + ofs) ++ (a.eval x).cells.toList ++ cur.toList.drop (i * sz + ofs + n)).toArray e _ hh
          have hlen : (cur.toList.take (i * sz + ofs) ++ (a.eval x).cells.toList ++ cur.toList.drop (i * sz + ofs + n)).length = cc * sz := by simp; omega
          have hmv : (mem id).ver = ver := by rw [hm]; rfl
          obtain ⟨g1, g2, g3⟩ := WS.upd (w' := w.setRow b (cur.toList.take (i * sz + ofs) ++ (a.eval x).cells.toList ++ cur.toList.drop (i * sz + ofs + n)).toArray) hw id (.vrow ver e sz m (fun j => bif Nat.beq j i then newElt sz ofs n vs (f i).cells else f j)) (bl id) (by rw [hmv]; exact Nat.le_refl _) (fun _ => ⟨by rw [hm]; simp [Kept], rfl⟩) rfl rfl rfl (by simp)
            (fun b2 _ hb2 => setRow_other w b b2 _ (fun e => hb2 cc (by rw [hm]; rfl) (by rw [hbl, e])))
            (fun b2 c2 _ hb2 => ⟨.inr ⟨by rw [hm]; rfl, c2, hb2⟩, by simpa using (hw.own id b2 c2 (by rw [hm]; rfl) hb2).2.2⟩)
            (fun hF hk => by
              rw [hbl] at hF hk ⊢
              refine ⟨hz, (cur.toList.take (i * sz + ofs) ++ (a.eval x).cells.toList ++ cur.toList.drop (i * sz + ofs + n)).take (m * sz), ⟨by rw [List.length_take, hlen]; omega, .inr ⟨b, cc, _, rfl, Nat.zero_le _, hsetH, hnc, hcm, by simpa using hlen, rfl⟩⟩, fun q hq => ?_⟩
              have hgetX : ∀ k, k < m * sz → ((cur.toList.take (i * sz + ofs) ++ (a.eval x).cells.toList ++ cur.toList.drop (i * sz + ofs + n)).take (m * sz)).getD k undef = if i * sz + ofs ≤ k ∧ k < i * sz + ofs + n then (a.eval x).cells.toList.getD (k - (i * sz + ofs)) undef else xs.getD k undef := fun k hk => by
                have := getD_segV cur.toList (a.eval x).cells.toList (i * sz + ofs) n k (by simp; omega) (by simp; omega)
                have e3 : ((cur.toList.take (i * sz + ofs) ++ (a.eval x).cells.toList ++ cur.toList.drop (i * sz + ofs + n)).take (m * sz)).getD k undef = (cur.toList.take (i * sz + ofs) ++ (a.eval x).cells.toList ++ cur.toList.drop (i * sz + ofs + n)).getD k undef := by
                  simp only [List.getD_eq_getElem?_getD, List.getElem?_take, if_pos hk]
                have e4 : xs.getD k undef = cur.toList.getD k undef := by
                  rw [← htk]; simp only [List.getD_eq_getElem?_getD, List.getElem?_take, if_pos hk]
                rw [e3, this, e4]
              obtain ⟨r1, r2⟩ := hr q hq
              by_cases hqi : q = i
              · subst hqi
                have hel := newElt_cells b2 b3' r1 b4'
                simp only [Nat.beq_refl, cond_true]
                rw [hel]
                refine ⟨by simp; omega, fun j hj => ?_⟩
                have hkk := cells_le hq (n := 1) (show j + 1 ≤ sz by omega)
                rw [hgetX (q * sz + j) (by omega), getD_seg _ vs ofs n j b3' (by omega)]
                by_cases hj2 : ofs ≤ j ∧ j < ofs + n
                · rw [if_pos (by omega), if_pos hj2]
                  have := (f6 (j - ofs) (by omega)).mono hF hk
                  rw [show q * sz + j - (q * sz + ofs) = j - ofs by omega]
                  simpa [List.getD_eq_getElem?_getD] using this
                · rw [if_neg (by omega), if_neg hj2]
                  exact (r2 j hj).mono hF hk
              · simp only [beq_false_of_ne hqi, cond_false]
                refine ⟨r1, fun j hj => ?_⟩
                have hkk := cells_le hq (n := 1) (show j + 1 ≤ sz by omega)
                rw [hgetX (q * sz + j) (by omega), if_neg (by
                  intro ⟨h3, h4⟩
                  rcases Nat.lt_or_ge q i with hlt | hge
                  · have := cells_le hlt (n := 1) (show j + 1 ≤ sz by omega); omega
                  · have hgt : i < q := by omega
                    have := cells_le hgt (n := n) b4'; omega)]
                exact (r2 j hj).mono hF hk)
          refine ⟨undef, _, _, .inr ⟨?_, rfl⟩, g1, .fz (.undef _), g2, g3⟩
          simp [execOp, ho, hpu, hrun]
    · cases hs
  · cases hs

theorem storeSound {site : Nat} {i : EI} {c : Prop} {v : AV} {mem' : Mem} {t : TypeId} {p x : Operand} (ho : o.op = .store t p x) (hc : compE P site o.op = some i) (hw : WS X Y w0 w bl mem) (hv : ∀ k, VV w (Fr X w bl mem) bl mem (a.tmps.getD k undef) (env k))
    (hs : i.run env mem = some (c, v, mem')) (h : c) : Eff P X Y w0 w bl mem a o v mem' := by
  rw [ho] at hc
  simp only [compE] at hc
  split at hc <;> cases hc
  rename_i n hn
  simp only [EI.run] at hs
  split at hs
  · rename_i id ver ofs e1
    split at hs
    · rename_i ver' cs hm
      have hp := VV.opd hv p
      have hx := VV.opd hv x
      rw [e1] at hp
      generalize hb : (((Opd.of x).ev env).okv && ((Opd.of x).ev env).cells.all AV.isCell && Nat.beq ((Opd.of x).ev env).cells.length n && Nat.ble (ofs + n) cs.length) = bb at hs
      cases bb with
      | false => cases hs
      | true =>
        cases hs
        subst h
        simp only [Bool.and_eq_true] at hb
        obtain ⟨⟨⟨b1, b2⟩, b3⟩, b4⟩ := hb
        have b3' := Nat.eq_of_beq_eq_true b3
        have b4' := Nat.le_of_ble_eq_true b4
        obtain ⟨_, _, hinv⟩ := hp.ptr_inv
        obtain ⟨b, cc, hbl, hpu⟩ := hinv _ hm
        have hob := hw.obj id
        rw [hm, hbl] at hob
        obtain ⟨b', c', arr, e, hl, hh, hsz, hr⟩ := hob
        cases hl
        have hxs := hx.cells_size b1
        have hxc := hx.cellsOf hxs
        have hone := oneCells_of hxs hxc b2
        have hrun := run_storeVar_at (P := P) (w := w) hn (ofs := ofs) hh (v := a.eval x) (by omega) (by omega) hone
        have hsetH : (w.setRow b (arr.toList.take ofs ++ (a.eval x).cells.toList ++ arr.toList.drop (ofs + n)).toArray).heap[b]? = some (.cells (arr.toList.take ofs ++ (a.eval x).cells.toList ++ arr.toList.drop (ofs + n)).toArray e (0, 0)) := setRow_heap w b arr _ e _ hh
        have hmv : (mem id).ver = ver := by rw [hm]; rfl
        obtain ⟨g1, g2, g3⟩ := WS.upd (w' := w.setRow b (arr.toList.take ofs ++ (a.eval x).cells.toList ++ arr.toList.drop (ofs + n)).toArray) hw id (.var ver (cs.take ofs ++ ((Opd.of x).ev env).cells ++ cs.drop (ofs + n))) (bl id) (by rw [hmv]; exact Nat.le_refl _) (fun _ => ⟨by rw [hm]; simp [Kept]; omega, rfl⟩) rfl rfl rfl (by simp)
          (fun b2 _ hb2 => setRow_other w b b2 _ (fun e => hb2 cc (by rw [hm]; rfl) (by rw [hbl, e])))
          (fun b2 c2 _ hb2 => ⟨.inr ⟨by rw [hm]; rfl, c2, hb2⟩, by simpa using (hw.own id b2 c2 (by rw [hm]; rfl) hb2).2.2⟩)
          (fun hF hk => by
            rw [hbl] at hk ⊢
            refine ⟨b, cc, _, _, rfl, hsetH, by simp; omega, fun j hj => ?_⟩
            rw [getD_seg cs _ ofs n j b3' b4']
            have e2 : (arr.toList.take ofs ++ (a.eval x).cells.toList ++ arr.toList.drop (ofs + n)).toArray.getD j undef = (arr.toList.take ofs ++ (a.eval x).cells.toList ++ arr.toList.drop (ofs + n)).getD j undef := by simp [List.getD_eq_getElem?_getD]
            rw [e2, getD_segV arr.toList _ ofs n j (by simp; omega) (by simp; omega)]
            have hjlt : j < cs.length := by simp at hj; omega
            rw [hbl] at hF
            by_cases hj2 : ofs ≤ j ∧ j < ofs + n
            · rw [if_pos hj2, if_pos hj2]
              have := (hxc (j - ofs) (by omega)).mono hF hk
              simpa [List.getD_eq_getElem?_getD] using this
            · rw [if_neg hj2, if_neg hj2]
              have := (hr j hjlt).mono hF hk
              simpa [List.getD_eq_getElem?_getD] using this)
        refine ⟨undef, _, _, .inr ⟨?_, rfl⟩, g1, .fz (.undef _), g2, g3⟩
        simp [execOp, ho, hpu, hrun]
    · cases hs
  · rename_i id ver i ofs e1
    split at hs
    · rename_i p1 vs mem1 hfz
      have hx := VV.opd hv x
      split at hs
      · rename_i ver' e sz m f hm
        have hp := VV.opd hv p
        rw [e1] at hp
        generalize hb : (Nat.beq vs.length n && Nat.ble (ofs + n) sz) = bb at hs
        cases bb with
        | false => cases hs
        | true =>
          cases hs
          obtain ⟨hp1, h0, h⟩ := h
          subst h0
          obtain ⟨bl1, f1, f3, flat, f4, f5, f6⟩ := frzV_sound hw hx hfz hp1
          simp only [Bool.and_eq_true] at hb
          obtain ⟨b3, b4⟩ := hb
          have b3' := Nat.eq_of_beq_eq_true b3
          have b4' := Nat.le_of_ble_eq_true b4
          have hp' := hp.mono (fun b hb => ⟨f3 b hb, rfl⟩) flat
          obtain ⟨_, _, hinv⟩ := hp'.rp_inv
          obtain ⟨b, cc, hbl, hi, hpu⟩ := hinv _ _ _ _ hm
          have hob := f1.obj id
          rw [hm, hbl] at hob
          obtain ⟨hz, xs, ⟨hxl, hown⟩, hr⟩ := hob
          rcases hown with ⟨hv', _⟩ | ⟨g, cap, cur, hv', _, hh, hnc, hcm, hcs, htk⟩
          · simp [slv] at hv'
          · simp only [slv, Value.slice.injEq, Option.some.injEq, Addr.mk.injEq] at hv'
            obtain ⟨⟨rfl, _⟩, _, rfl⟩ := hv'
            have hone : ∀ u ∈ (a.eval x).cells.toList, u.oneCell' = true := oneCells_of (w := w) (bl := bl1) (mem := mem1) f4.symm (fun j hj => .fz (f6 j hj)) f5
            have hfit := cells_le hi (n := n) b4'
            have hfit2 : m * sz ≤ cc * sz := Nat.mul_le_mul_right sz hnc
            have hrun := run_storeVar_at (P := P) (w := w) hn (ofs := i * sz + ofs) hh (v := a.eval x) (by omega) (by omega) hone
            have hsetH := setRow_heap w b cur (cur.toList.take (i * sz + ofs) ++ (a.eval x).cells.toList ++ cur.toList.drop (i * sz + ofs + n)).toArray e _ hh
            have hlen : (cur.toList.take (i * sz + ofs) ++ (a.eval x).cells.toList ++ cur.toList.drop (i * sz + ofs + n)).length = cc * sz := by simp; omega
            have hmv : (mem1 id).ver = ver := by rw [hm]; rfl
            obtain ⟨g1, g2, g3⟩ := WS.upd (w' := w.setRow b (cur.toList.take (i * sz + ofs) ++ (a.eval x).cells.toList ++ cur.toList.drop (i * sz + ofs + n)).toArray) f1 id (.row ver e sz m (fun j => bif Nat.beq j i then newElt sz ofs n vs (f i).cells else f j)) (bl1 id) (by rw [hmv]; exact Nat.le_refl _) (fun _ => ⟨by rw [hm]; simp [Kept], rfl⟩) rfl rfl rfl (by simp)
              (fun b2 _ hb2 => setRow_other w b b2 _ (fun e => hb2 cc (by rw [hm]; rfl) (by rw [hbl, e])))
              (fun b2 c2 _ hb2 => ⟨.inr ⟨by rw [hm]; rfl, c2, hb2⟩, by simpa using (f1.own id b2 c2 (by rw [hm]; rfl) hb2).2.2⟩)
              (fun hF hk => by
                rw [hbl] at hF hk ⊢
                refine ⟨hz, (cur.toList.take (i * sz + ofs) ++ (a.eval x).cells.toList ++ cur.toList.drop (i * sz + ofs + n)).take (m * sz), ⟨by rw [List.length_take, hlen]; omega, .inr ⟨b, cc, _, rfl, Nat.zero_le _, hsetH, hnc, hcm, by simpa using hlen, rfl⟩⟩, fun q hq => ?_⟩
                have hgetX : ∀ k, k < m * sz → ((cur.toList.take (i * sz + ofs) ++ (a.eval x).cells.toList ++ cur.toList.drop (i * sz + ofs + n)).take (m * sz)).getD k undef = if i * sz + ofs ≤ k ∧ k < i * sz + ofs + n then (a.eval x).cells.toList.getD (k - (i * sz + ofs)) undef else xs.getD k undef := fun k hk => by
                  have := getD_segV cur.toList (a.eval x).cells.toList (i * sz + ofs) n k (by simp; omega) (by simp; omega)
                  have e3 : ((cur.toList.take (i * sz + ofs) ++ (a.eval x).cells.toList ++ cur.toList.drop (i * sz + ofs + n)).take (m * sz)).getD k undef = (cur.toList.take (i * sz + ofs) ++ (a.eval x).cells.toList ++ cur.toList.drop (i * sz + ofs + n)).getD k undef := by
                    simp only [List.getD_eq_getElem?_getD, List.getElem?_take, if_pos hk]
                  have e4 : xs.getD k undef = cur.toList.getD k undef := by
                    rw [← htk]; simp only [List.getD_eq_getElem?_getD, List.getElem?_take, if_pos hk]
                  rw [e3, this, e4]
                obtain ⟨r1, r2⟩ := hr q hq
                by_cases hqi : q = i
                · subst hqi
                  have hel := newElt_cells f5 b3' r1 b4'
                  simp only [Nat.beq_refl, cond_true]
                  rw [hel]
                  refine ⟨by simp; omega, fun j hj => ?_⟩
                  have hkk := cells_le hq (n := 1) (show j + 1 ≤ sz by omega)
                  rw [hgetX (q * sz + j) (by omega), getD_seg _ vs ofs n j b3' (by omega)]
                  by_cases hj2 : ofs ≤ j ∧ j < ofs + n
                  · rw [if_pos (by omega), if_pos hj2]
                    have := (f6 (j - ofs) (by omega)).mono hF
                    rw [show q * sz + j - (q * sz + ofs) = j - ofs by omega]
                    simpa [List.getD_eq_getElem?_getD] using this
                  · rw [if_neg (by omega), if_neg hj2]
                    exact (r2 j hj).mono hF
                · simp only [beq_false_of_ne hqi, cond_false]
                  refine ⟨r1, fun j hj => ?_⟩
                  have hkk := cells_le hq (n := 1) (show j + 1 ≤ sz by omega)
                  rw [hgetX (q * sz + j) (by omega), if_neg (by
                    intro ⟨h3, h4⟩
                    rcases Nat.lt_or_ge q i with hlt | hge
                    · have := cells_le hlt (n := 1) (show j + 1 ≤ sz by omega); omega
                    · have hgt : i < q := by omega
                      have := cells_le hgt (n := n) b4'; omega)]
                  exact (r2 j hj).mono hF)
            refine ⟨undef, _, _, .inr ⟨?_, rfl⟩, g1, .fz (.undef _), fun b hb => g2 b (f3 b hb), flat.trans g3⟩
            simp [execOp, ho, hpu, hrun]
      · cases hs
    · cases hs
  · exact storeVSound ho hn hw hv hs h

end
end Go.Ab
