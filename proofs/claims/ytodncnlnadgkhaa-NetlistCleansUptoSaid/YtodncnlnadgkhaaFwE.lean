/- The instructions that turn nothing: each tells what its operation does. -/
import Derived.Test.YtodncnlnadgkhaaFwD
set_option linter.unusedSimpArgs false
set_option linter.unusedVariables false
namespace Go.Ab
open Go

section
variable {P : Program} {X Y : Nat → Prop} {w0 w : World} {F : Nat → Prop} {bl : Nat → Loc} {mem : Mem} {a : Act} {env : Env} {o : Oper}

/-! ### filling the cells of a struct -/
theorem fold_cells (off : Nat) : ∀ (l : List Value) (i : Nat) (cells : Array Value), off + i + l.length ≤ cells.size →
    ((l.zipIdx i).foldl (fun cs (x : Value × Nat) => cs.setIfInBounds (off + x.2) x.1) cells).size = cells.size ∧
    ∀ k, ((l.zipIdx i).foldl (fun cs (x : Value × Nat) => cs.setIfInBounds (off + x.2) x.1) cells).getD k undef = if off + i ≤ k ∧ k < off + i + l.length then l.getD (k - (off + i)) undef else cells.getD k undef
  | [], i, cells, _ => by simp; intro k h1 h2; omega
  | v :: rest, i, cells, h => by
    simp only [List.zipIdx_cons, List.foldl_cons]
    simp only [List.length_cons] at h ⊢
    obtain ⟨h1, h2⟩ := fold_cells off rest (i + 1) (cells.setIfInBounds (off + i) v) (by simp; omega)
    refine ⟨by rw [h1]; simp, fun k => ?_⟩
    rw [h2 k]
    by_cases hk : k = off + i
    · subst hk
      rw [if_neg (by omega), if_pos (by omega)]
      have hlt : off + i < cells.size := by omega
      simp [hlt]
    · by_cases hk2 : off + (i + 1) ≤ k ∧ k < off + (i + 1) + rest.length
      · rw [if_pos hk2, if_pos (by omega)]
        rw [show k - (off + i) = (k - (off + (i + 1))) + 1 by omega, List.getD_cons_succ]
      · rw [if_neg hk2, if_neg (by omega)]
        have : (cells.setIfInBounds (off + i) v)[k]? = cells[k]? := Array.getElem?_setIfInBounds_ne (by omega)
        simp [this]

theorem getD_seg (cs ds : List AV) (off n k : Nat) (hd : ds.length = n) (h : off + n ≤ cs.length) :
    (cs.take off ++ ds ++ cs.drop (off + n)).getD k .undef = if off ≤ k ∧ k < off + n then ds.getD (k - off) .undef else cs.getD k .undef := by
  simp only [List.getD_eq_getElem?_getD]
  by_cases h1 : off ≤ k ∧ k < off + n
  · rw [if_pos h1, List.append_assoc, List.getElem?_append_right (by simp; omega), List.getElem?_append_left (by simp; omega)]
    congr 2
    simp; omega
  · rw [if_neg h1]
    by_cases h2 : k < off
    · rw [List.append_assoc, List.getElem?_append_left (by simp; omega), List.getElem?_take, if_pos h2]
    · rw [List.getElem?_append_right (by simp; omega), List.getElem?_drop]
      congr 2
      simp; omega

theorem fill_sound (places : List (Nat × Nat)) (hv : ∀ k, VV w F bl mem (a.tmps.getD k undef) (env k)) : ∀ (parts : List (Nat × Operand)) (ps : List (Nat × Nat × Opd)) (cells : Array Value) (cs cs' : List AV),
    compParts places parts = some ps → cells.size = cs.length → (∀ j, j < cs.length → VV w F bl mem (cells.getD j undef) (cs.getD j .undef)) → fillA env ps cs = some cs' →
    ∃ cells', Instr.fill (places.toArray[·]?) cells (parts.map fun (i, x) => (i, a.eval x)) = some cells' ∧ cells'.size = cs'.length ∧ ∀ j, j < cs'.length → VV w F bl mem (cells'.getD j undef) (cs'.getD j .undef)
  | [], ps, cells, cs, cs', hp, hs, hr, hf => by
    simp only [compParts, Option.some.injEq] at hp
    subst hp
    simp only [fillA, Option.some.injEq] at hf
    subst hf
    exact ⟨cells, by simp [Instr.fill], hs, hr⟩
  | (i, x) :: rest, ps, cells, cs, cs', hp, hs, hr, hf => by
    simp only [compParts] at hp
    split at hp
    · rename_i off n r hpl hrest
      cases hp
      simp only [fillA] at hf
      cases hb : ((Opd.of x).ev env).okv && Nat.beq ((Opd.of x).ev env).cells.length n && Nat.ble (off + n) cs.length with
      | false => rw [hb] at hf; cases hf
      | true =>
        rw [hb] at hf
        simp only [Bool.and_eq_true] at hb
        obtain ⟨⟨h1, h2⟩, h3⟩ := hb
        have h2' := Nat.eq_of_beq_eq_true h2
        have h3' := Nat.le_of_ble_eq_true h3
        have hx := VV.opd hv x
        have hsz := hx.cells_size h1
        have hcl := hx.cellsOf hsz
        have hfc := fold_cells off (a.eval x).cells.toList 0 cells (by simp; omega)
        have hrr : ∀ j, j < (cs.take off ++ ((Opd.of x).ev env).cells ++ cs.drop (off + n)).length → VV w F bl mem ((((a.eval x).cells.toList.zipIdx 0).foldl (fun cs (x : Value × Nat) => cs.setIfInBounds (off + x.2) x.1) cells).getD j undef) ((cs.take off ++ ((Opd.of x).ev env).cells ++ cs.drop (off + n)).getD j .undef) := fun j hj => by
          rw [hfc.2 j, getD_seg cs _ off n j h2' h3']
          simp only [Nat.add_zero, Array.length_toList]
          rw [hsz, h2']
          by_cases hj2 : off ≤ j ∧ j < off + n
          · rw [if_pos hj2, if_pos hj2]
            have := hcl (j - off) (by omega)
            simpa [List.getD_eq_getElem?_getD] using this
          · rw [if_neg hj2, if_neg hj2]
            exact hr j (by simp at hj; omega)
        obtain ⟨cells', e1, e2, e3⟩ := fill_sound places hv rest r _ _ cs' hrest (by rw [hfc.1]; simp; omega) hrr hf
        refine ⟨cells', ?_, e2, e3⟩
        simp only [List.map_cons, Instr.fill]
        have hpl' : places.toArray[i]? = some (off, n) := by simpa using hpl
        simp only [hpl']
        rw [if_neg (by simp [hsz, h2']; omega), ← Array.foldl_toList, Array.toList_zipIdx]
        exact e1
    · cases hp

theorem fill_soundA (sz : Nat) (hv : ∀ k, VV w F bl mem (a.tmps.getD k undef) (env k)) : ∀ (parts : List (Nat × Operand)) (ps : List (Nat × Nat × Opd)) (cells : Array Value) (cs cs' : List AV),
    compPartsA sz parts = ps → cells.size = cs.length → (∀ j, j < cs.length → VV w F bl mem (cells.getD j undef) (cs.getD j .undef)) → fillA env ps cs = some cs' →
    ∃ cells', Instr.fill (fun i => some (i * sz, sz)) cells (parts.map fun (i, x) => (i, a.eval x)) = some cells' ∧ cells'.size = cs'.length ∧ ∀ j, j < cs'.length → VV w F bl mem (cells'.getD j undef) (cs'.getD j .undef)
  | [], ps, cells, cs, cs', hp, hs, hr, hf => by
    simp only [compPartsA] at hp
    subst hp
    simp only [fillA, Option.some.injEq] at hf
    subst hf
    exact ⟨cells, by simp [Instr.fill], hs, hr⟩
  | (i, x) :: rest, ps, cells, cs, cs', hp, hs, hr, hf => by
    simp only [compPartsA] at hp
    subst hp
    simp only [fillA] at hf
    cases hb : ((Opd.of x).ev env).okv && Nat.beq ((Opd.of x).ev env).cells.length sz && Nat.ble (i * sz + sz) cs.length with
    | false => rw [hb] at hf; cases hf
    | true =>
      rw [hb] at hf
      simp only [Bool.and_eq_true] at hb
      obtain ⟨⟨h1, h2⟩, h3⟩ := hb
      have h2' := Nat.eq_of_beq_eq_true h2
      have h3' := Nat.le_of_ble_eq_true h3
      have hx := VV.opd hv x
      have hsz := hx.cells_size h1
      have hcl := hx.cellsOf hsz
      have hfc := fold_cells (i * sz) (a.eval x).cells.toList 0 cells (by simp; omega)
      have hrr : ∀ j, j < (cs.take (i * sz) ++ ((Opd.of x).ev env).cells ++ cs.drop (i * sz + sz)).length → VV w F bl mem ((((a.eval x).cells.toList.zipIdx 0).foldl (fun cs (x : Value × Nat) => cs.setIfInBounds (i * sz + x.2) x.1) cells).getD j undef) ((cs.take (i * sz) ++ ((Opd.of x).ev env).cells ++ cs.drop (i * sz + sz)).getD j .undef) := fun j hj => by
        rw [hfc.2 j, getD_seg cs _ (i * sz) sz j h2' h3']
        simp only [Nat.add_zero, Array.length_toList]
        rw [hsz, h2']
        by_cases hj2 : i * sz ≤ j ∧ j < i * sz + sz
        · rw [if_pos hj2, if_pos hj2]
          have := hcl (j - i * sz) (by omega)
          simpa [List.getD_eq_getElem?_getD] using this
        · rw [if_neg hj2, if_neg hj2]
          exact hr j (by simp at hj; omega)
      obtain ⟨cells', e1, e2, e3⟩ := fill_soundA sz hv rest _ _ _ cs' rfl (by rw [hfc.1]; simp; omega) hrr hf
      refine ⟨cells', ?_, e2, e3⟩
      simp only [List.map_cons, Instr.fill]
      rw [if_neg (by simp [hsz, h2']; omega), ← Array.foldl_toList, Array.toList_zipIdx]
      exact e1

theorem cvl_sound (z : Value) : ∀ j, j < (cvl z).length → VV w F bl mem (z.cells.getD j undef) ((cvl z).getD j .undef) := by
  intro j hj
  simp only [cvl, List.length_map, Array.length_toList] at hj
  have : (cvl z).getD j .undef = cvs (z.cells.getD j undef) := by simp [cvl, List.getD_eq_getElem?_getD, hj]
  rw [this]
  exact .fz (FV.cvs _)

/-! ### reading memory -/
theorem cells_le {i m sz o n : Nat} (hi : i < m) (ho : o + n ≤ sz) : i * sz + o + n ≤ m * sz := by
  have : (i + 1) * sz ≤ m * sz := Nat.mul_le_mul_right sz hi
  rw [Nat.add_mul, Nat.one_mul] at this
  omega

/-- The cells behind a pointer, and what they stand for. -/
theorem read_sound (hw : WS X Y w0 w bl mem) {x : Value} {v : AV} (hx : VV w (Fr X w bl mem) bl mem x v) :
    (∀ id ver ofs cs, v = .ptr id ver ofs → mem id = .var ver cs → ∃ (ad : Addr) (val : Nat → Value), x = .pointer (some ad) ∧ (∀ j, j < (cs.drop ofs).length → w.cell? (ad.add j) = some (val j)) ∧ ∀ j, j < (cs.drop ofs).length → VV w (Fr X w bl mem) bl mem (val j) ((cs.drop ofs).getD j .undef)) ∧
    (∀ id ver i ofs e sz m f, v = .rp id ver i ofs → mem id = .row ver e sz m f → i < m → ∃ (ad : Addr) (val : Nat → Value), x = .pointer (some ad) ∧ (∀ j, j < ((f i).cells.drop ofs).length → w.cell? (ad.add j) = some (val j)) ∧ ∀ j, j < ((f i).cells.drop ofs).length → VV w (Fr X w bl mem) bl mem (val j) (((f i).cells.drop ofs).getD j .undef)) ∧
    (∀ cs, v = .fp cs → ∃ (ad : Addr) (val : Nat → Value), x = .pointer (some ad) ∧ (∀ j, j < cs.length → w.cell? (ad.add j) = some (val j)) ∧ ∀ j, j < cs.length → VV w (Fr X w bl mem) bl mem (val j) (cs.getD j .undef)) := by
  refine ⟨fun id ver ofs cs hv hm => ?_, fun id ver i ofs e sz m f hv hm hi => ?_, fun cs hv => ?_⟩
  · subst hv
    obtain ⟨b, c, hb, rfl⟩ := hx.ptr_inv.choose_spec.2 cs hm
    have ho := hw.obj id
    rw [hm, hb] at ho
    obtain ⟨b', c', arr, e, hl, hh, hs, hr⟩ := ho
    cases hl
    refine ⟨_, fun j => arr.getD (ofs + j) undef, rfl, fun j hj => ?_, fun j hj => ?_⟩
    · rw [add_lit, cell_of_row w b (ofs + j) arr e (0, 0) hh]
      have : ofs + j < arr.size := by simp at hj; omega
      simp [this]
    · rw [getD_drop]
      exact hr _ (by simp at hj; omega)
  · subst hv
    obtain ⟨b, c, hb, hi', rfl⟩ := hx.rp_inv.choose_spec.2 _ _ _ _ hm
    have ho := hw.obj id
    rw [hm, hb] at ho
    obtain ⟨h0, xs, hown, hr⟩ := ho
    obtain ⟨hl, hr'⟩ := hr i hi
    refine ⟨_, fun j => xs.getD (i * sz + (ofs + j)) undef, rfl, fun j hj => ?_, fun j hj => ?_⟩
    · have hj' : ofs + j < sz := by simp at hj; omega
      have hlt : i * sz + (ofs + j) < xs.length := by rw [hown.1]; have := cells_le (n := 1) hi (show (ofs + j) + 1 ≤ sz by omega); omega
      have := hown.cells (g := b) rfl (i * sz + (ofs + j)) (xs.getD (i * sz + (ofs + j)) undef) (by simp [List.getD_eq_getElem?_getD, hlt])
      rw [add_lit] at this ⊢
      rw [show i * sz + ofs + j = 0 + (i * sz + (ofs + j)) by omega]
      exact this
    · rw [getD_drop]
      exact .fz (hr' (ofs + j) (by simp at hj; omega))
  · subst hv
    cases hx with
    | fz h => cases h with
      | fp ad _ val hb hv hr => exact ⟨ad, val, rfl, hv, fun j hj => .fz (hr j hj)⟩

/-- The cells behind a pointer into a row whose elements may lead to own objects. -/
theorem read_soundV (hw : WS X Y w0 w bl mem) {x : Value} {v : AV} (hx : VV w (Fr X w bl mem) bl mem x v) (id ver i ofs e sz m : Nat) (f : Nat → AV) (hv : v = .vp id ver i ofs) (hm : mem id = .vrow ver e sz m f) (hi : i < m) :
    ∃ (ad : Addr) (val : Nat → Value), x = .pointer (some ad) ∧ (∀ j, j < ((f i).cells.drop ofs).length → w.cell? (ad.add j) = some (val j)) ∧ ∀ j, j < ((f i).cells.drop ofs).length → VV w (Fr X w bl mem) bl mem (val j) (((f i).cells.drop ofs).getD j .undef) := by
  subst hv
  obtain ⟨b, c, hb, hi', rfl⟩ := hx.vp_inv.choose_spec.2 _ _ _ _ hm
  have ho := hw.obj id
  rw [hm, hb] at ho
  obtain ⟨h0, xs, hown, hr⟩ := ho
  obtain ⟨hl, hr'⟩ := hr i hi
  refine ⟨_, fun j => xs.getD (i * sz + (ofs + j)) undef, rfl, fun j hj => ?_, fun j hj => ?_⟩
  · have hj' : ofs + j < sz := by simp at hj; omega
    have hlt : i * sz + (ofs + j) < xs.length := by rw [hown.1]; have := cells_le (n := 1) hi (show (ofs + j) + 1 ≤ sz by omega); omega
    have := hown.cells (g := b) rfl (i * sz + (ofs + j)) (xs.getD (i * sz + (ofs + j)) undef) (by simp [List.getD_eq_getElem?_getD, hlt])
    rw [add_lit] at this ⊢
    rw [show i * sz + ofs + j = 0 + (i * sz + (ofs + j)) by omega]
    exact this
  · rw [getD_drop]
    exact hr' (ofs + j) (by simp at hj; omega)
theorem run_arrAt {t e : TypeId} {len sz : Nat} (ht : P.underlying t = some (.array len e)) (hn : tsize P e = some sz) (ad : Addr) (k : IntKind) (j : Int) (h0 : 0 ≤ j) (h1 : j < len) :
    (Instr.indexAt t (.pointer (some ad)) (.int k j)).run P w = .ok (.pointer (some (ad.add (j.toNat * sz)))) w := by
  obtain ⟨i, hi, hin⟩ := Option.map_eq_some_iff.1 hn
  simp [Instr.indexAt, run_underlying ht, asIntOf, Instr.sureAddr, sizeOf, typeInfo, hi, hin, h0, h1]
theorem run_fieldAt {s : TypeId} {f : Nat} {fd : Field} {n : Nat} (hf : fieldOf P s f = some fd) (hn : tsize P fd.type = some (n + 1)) (ad : Addr) :
    (Instr.fieldAt s (.pointer (some ad)) f).run P w = .ok (.pointer (some (ad.add fd.offset))) w := by
  unfold fieldOf at hf
  split at hf
  · rename_i fs hu
    obtain ⟨i, hi, hin⟩ := Option.map_eq_some_iff.1 hn
    simp [Instr.fieldAt, run_underlying hu, hf, Instr.sureAddr, fieldPlace, sizeOf, typeInfo, hi, hin]
  · cases hf

theorem run_part {t : TypeId} {d : TypeDesc} {n : Nat} (hu : P.underlying t = some d) (hs : tsize P t = some n) {vs : Array Value} {cs : List AV} {ofs : Nat} {v : AV}
    (hl : vs.size = cs.length) (hr : ∀ j, j < cs.length → VV w F bl mem (vs.getD j undef) (cs.getD j .undef)) (hp : part? n (aggT P t) (cs.drop ofs) = some v) :
    ∃ u, (part t vs ofs).run P w = .ok u w ∧ VV w F bl mem u v := by
  obtain ⟨i, hi, hin⟩ := Option.map_eq_some_iff.1 hs
  cases hg : aggT P t with
  | true =>
    rw [hg] at hp
    simp only [part?] at hp
    cases hb : Nat.ble n (cs.drop ofs).length with
    | false => rw [hb] at hp; cases hp
    | true =>
      rw [hb] at hp
      cases hp
      have hle : n ≤ (cs.drop ofs).length := Nat.le_of_ble_eq_true hb
      have hagg : (isAgg t).run P w = .ok true w := by
        unfold aggT at hg
        rw [hu] at hg
        cases d <;> simp_all [isAgg, run_underlying hu]
      refine ⟨.agg (vs.extract ofs (ofs + n)), by simp [part, hagg, sizeOf, typeInfo, hi, hin], ?_⟩
      simp at hle
      refine .agg _ _ (by simp; omega) (fun j hj => ?_)
      have hjn : j < n := by simp at hj; omega
      have := hr (ofs + j) (by omega)
      have e1 : (vs.extract ofs (ofs + n)).getD j undef = vs.getD (ofs + j) undef := by
        have h1 : ofs + j < vs.size := by omega
        simp [Array.getElem?_extract, h1, show j < min (ofs + n) vs.size - ofs by omega]
      have e2 : ((cs.drop ofs).take n).getD j .undef = cs.getD (ofs + j) .undef := by
        simp [List.getD_eq_getElem?_getD, List.getElem?_take, hjn, List.getElem?_drop]
      rw [e1, e2]
      exact this
  | false =>
    rw [hg] at hp
    simp only [part?] at hp
    cases hcs : cs.drop ofs with
    | nil => rw [hcs] at hp; cases hp
    | cons y rest =>
      rw [hcs] at hp
      have hy : y = v := by simpa using hp
      rw [← hy]
      have hagg : (isAgg t).run P w = .ok false w := by
        unfold aggT at hg
        rw [hu] at hg
        cases d <;> simp_all [isAgg, run_underlying hu]
      have hlt : ofs < cs.length := by
        rcases Nat.lt_or_ge ofs cs.length with h | h
        · exact h
        · rw [List.drop_eq_nil_of_le h] at hcs; cases hcs
      have hv := hr ofs hlt
      have e1 : cs.getD ofs .undef = y := by
        have := getD_drop cs ofs 0
        rw [hcs] at this
        simpa using this.symm
      have hlt' : ofs < vs.size := by omega
      have e2 : vs[ofs]? = some (vs.getD ofs undef) := by rw [Array.getElem?_eq_getElem hlt', Array.getD_eq_getD_getElem?, Array.getElem?_eq_getElem hlt']; rfl
      rw [e1] at hv
      exact ⟨vs.getD ofs undef, by simp only [part, Sem.run_bind, hagg, Result.andThen_ok, e2]; rfl, hv⟩

end
end Go.Ab
