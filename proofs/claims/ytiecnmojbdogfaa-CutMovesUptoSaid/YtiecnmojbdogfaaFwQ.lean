/- What a caller hands over, as data that is only read; and the row's step. -/
import Derived.Test.YtiecnmojbdogfaaFwP
import Derived.ProofKit
import Derived.OpenShut
import Derived.JoinedCond
import Derived.Carry
set_option linter.unusedSimpArgs false
set_option linter.unusedVariables false
namespace Go.Ab
open Go

/-- A measure of what is read. -/
structure Meas {H : Type} (μ : DataW H → Nat) : Prop where
  len : ∀ elems spare, elems.length ≤ μ (.slice elems spare)
  elem : ∀ elems spare x, x ∈ elems → μ x ≤ μ (.slice elems spare)
  part : ∀ parts x, x ∈ parts → μ x ≤ μ (.agg parts)
  str : ∀ b, b.length ≤ μ (.lit (.string b))

abbrev Pat := Nat → List AV → Prop

def ReadsAs (P : Program) (t : TypeId) (p : Pat) : Prop :=
  ∀ (H : Type) (enc : TypeId × Value → H) (w : World) (spare : Nat → Bool) (held : Bool) (μ : DataW H → Nat), Meas μ → ∀ (fuel : Nat) (cs : List Value) (d : DataW H) (ps : List MemPlace) (B : Nat), DataW.trod enc P w 0 spare held fuel t cs = some (d, ps) → μ d ≤ B →
    ∃ avs : List AV, cs.length = avs.length ∧ avs.all AV.isCell = true ∧ (∀ j, j < avs.length → FV w (fun b => b < w.heap.size) (cs.getD j undef) (avs.getD j .undef)) ∧ p B avs

def pInt (k : IntKind) : Pat := fun _ avs => ∃ n, avs = [.int k n] ∧ k.min ≤ n ∧ n ≤ k.max
def pBool : Pat := fun _ avs => ∃ b, avs = [.bool b]
def pStr : Pat := fun B avs => ∃ s : ByteArray, avs = [.str s] ∧ s.size ≤ B
def pSl (p : Pat) : Pat := fun B avs => ∃ n f, avs = [.fs n f] ∧ n ≤ B ∧ ∀ i, i < n → ∃ a, f i = mkElt a ∧ p B a
def pAll : List Pat → Pat
  | [] => fun _ avs => avs = []
  | p :: ps => fun B avs => ∃ a b, avs = a ++ b ∧ p B a ∧ pAll ps B b

variable {P : Program} {t e : TypeId} {p : Pat}

theorem choose_lt {α : Type} [Inhabited α] {n : Nat} {q : Nat → α → Prop} (h : ∀ i, i < n → ∃ z, q i z) : ∃ x : Nat → α, ∀ i, i < n → q i (x i) :=
  ⟨fun i => if hi : i < n then (h i hi).choose else default, fun i hi => by simp only [hi, dif_pos]; exact (h i hi).choose_spec⟩

theorem one_fv {w : World} {F : Nat → Prop} {v : Value} {a : AV} (h : FV w F v a) : ∀ j, j < [a].length → FV w F ([v].getD j undef) ([a].getD j .undef) := fun j hj => by
  obtain rfl : j = 0 := by simpa using hj
  exact h

theorem readsAs_int {k : IntKind} (ht : P.underlying t = some (.int k)) : ReadsAs P t (pInt k) := fun H enc w spare held μ hμ fuel cs d ps B h hB => by
  obtain ⟨n, rfl, hx, hw⟩ := DataW.trod_int ht h
  simp only [Lit.wf, Bool.and_eq_true, decide_eq_true_eq] at hw
  exact ⟨[.int k n], rfl, rfl, one_fv (.int k n), n, rfl, hw.1, hw.2⟩
theorem readsAs_bool (ht : P.underlying t = some .bool) : ReadsAs P t pBool := fun H enc w spare held μ hμ fuel cs d ps B h hB => by
  obtain ⟨b, rfl, hx⟩ := DataW.trod_bool ht h
  exact ⟨[.bool b], rfl, rfl, one_fv (.bool b), b, rfl⟩
theorem readsAs_str (ht : P.underlying t = some .string) : ReadsAs P t pStr := fun H enc w spare held μ hμ fuel cs d ps B h hB => by
  obtain ⟨s, rfl, hx, hw⟩ := DataW.trod_string ht h
  cases hx
  refine ⟨[.str s], rfl, rfl, one_fv (.str s), s, rfl, ?_⟩
  have := hμ.str s.data.toList
  have e1 : s.data.toList.length = s.size := by rw [Array.length_toList]; rfl
  omega

theorem readsAs_slice (ht : P.underlying t = some (.slice e)) (hz : 0 < P.cellsOf e) (he : ReadsAs P e p) : ReadsAs P t (pSl p) := fun H enc w spare held μ hμ fuel cs d ps B h hB => by
  rcases DataW.trod_slice ht h with ⟨rfl, hx⟩ | ⟨a, len, cap, elems, rest, n, rfl, rfl, hx, hb, hlc, hcm, hel, hread, _⟩
  · exact ⟨[.fs 0 fun _ => .undef], rfl, rfl, one_fv (.fs0 _ _ _), 0, _, rfl, Nat.zero_le _, fun i hi => absurd hi (Nat.not_lt_zero _)⟩
  · cases hx
    have hlen := hμ.len (elems.map (·.1)) (rest.map (·.1))
    have key : ∀ i, i < len → ∃ avs : List AV, avs.length = P.cellsOf e ∧ avs.all AV.isCell = true ∧ p B avs ∧ a.block < w.heap.size ∧ ∀ j, j < P.cellsOf e → ∃ u, w.cell? (a.add (i * P.cellsOf e + j)) = some u ∧ FV w (fun b => b < w.heap.size) u (avs.getD j .undef) := fun i hi => by
      have h1 := hread i hi
      have hi' : i < elems.length := by omega
      rw [List.getElem?_eq_getElem hi'] at h1
      obtain ⟨cs', hc', ht'⟩ := Option.bind_eq_some_iff.1 h1
      obtain ⟨_, hl', hcell⟩ := World.cells?_some hc'
      have hmem : elems[i].1 ∈ elems.map (·.1) := List.mem_map.2 ⟨_, List.getElem_mem hi', rfl⟩
      have hμ' := hμ.elem (elems.map (·.1)) (rest.map (·.1)) _ hmem
      obtain ⟨avs, g1, g2, g3, g4⟩ := he H enc w spare held μ hμ n cs' elems[i].1 elems[i].2 B (by rw [ht']) (by omega)
      have hblk : (a.add (i * P.cellsOf e)).block = a.block := by unfold Addr.add; split <;> rfl
      refine ⟨avs, by omega, g2, g4, by rw [← hblk]; exact World.cells?_block hc' hz, fun j hj => ⟨cs'.getD j undef, ?_, g3 j (by omega)⟩⟩
      have hadd : a.add (i * P.cellsOf e + j) = (a.add (i * P.cellsOf e)).add j := by
        unfold Addr.add
        by_cases k1 : i * P.cellsOf e = 0
        · simp [k1]
        · by_cases k2 : j = 0
          · simp [k2]
          · simp [k1, k2, Nat.add_assoc, show ¬ i * P.cellsOf e + j = 0 by omega]
      rw [hadd, hcell j hj, List.getElem?_eq_getElem (by omega), List.getD_eq_getElem?_getD, List.getElem?_eq_getElem (by omega)]
      rfl
    have hf := fun i => Classical.skolem.1 (fun (hi : i < len) => key i hi)
    obtain ⟨g, hg⟩ : ∃ g : Nat → List AV, ∀ i, i < len → (g i).length = P.cellsOf e ∧ (g i).all AV.isCell = true ∧ p B (g i) ∧ a.block < w.heap.size ∧ ∀ j, j < P.cellsOf e → ∃ u, w.cell? (a.add (i * P.cellsOf e + j)) = some u ∧ FV w (fun b => b < w.heap.size) u ((g i).getD j .undef) := by
      refine ⟨fun i => if hi : i < len then (key i hi).choose else [], fun i hi => ?_⟩
      simp only [hi, dif_pos]
      exact (key i hi).choose_spec
    rcases Nat.eq_zero_or_pos len with h0 | h0
    · subst h0
      exact ⟨[.fs 0 fun _ => .undef], rfl, rfl, one_fv (.fs0 _ _ _), 0, _, rfl, Nat.zero_le _, fun i hi => absurd hi (Nat.not_lt_zero _)⟩
    · refine ⟨[.fs len fun i => mkElt (g i)], rfl, rfl, one_fv ?_, len, _, rfl, ?_, fun i hi => ⟨g i, rfl, (hg i hi).2.2.1⟩⟩
      · refine .fs a len cap (P.cellsOf e) _ (fun i j => if hh : i < len ∧ j < P.cellsOf e then ((hg i hh.1).2.2.2.2 j hh.2).choose else undef) (hg 0 h0).2.2.2.1 hlc hz (fun i hi => ?_) (fun i j hi hj => ?_) (fun i j hi hj => ?_)
        · rw [mkElt_cells (hg i hi).2.1]; exact (hg i hi).1
        · simp only [hi, hj, and_self, dif_pos]
          exact ((hg i hi).2.2.2.2 j hj).choose_spec.1
        · simp only [hi, hj, and_self, dif_pos]
          rw [mkElt_cells (hg i hi).2.1]
          exact ((hg i hi).2.2.2.2 j hj).choose_spec.2
      · have : (elems.map (·.1)).length = len := by simp [hel]
        omega

/-! ### structs: field by field -/
def contig (P : Program) : Nat → List Field → Nat → Bool
  | off, [], n => Nat.beq off n
  | off, f :: fs, n => Nat.beq f.offset off && contig P (off + P.cellsOf f.type) fs n
inductive Fits (P : Program) : List Field → List Pat → Prop
  | nil : Fits P [] []
  | cons {f : Field} {fs : List Field} {p : Pat} {ps : List Pat} (h : ReadsAs P f.type p) (hr : Fits P fs ps) : Fits P (f :: fs) (p :: ps)

theorem fields_read {H : Type} {enc : TypeId × Value → H} {w : World} {spare : Nat → Bool} {held : Bool} {μ : DataW H → Nat} (hμ : Meas μ) {n B : Nat} {cs : List Value} : ∀ (fs : List Field) (ps : List Pat) (off : Nat) (xs : List (DataW H × List MemPlace)), Fits P fs ps → contig P off fs cs.length = true → off ≤ cs.length → xs.length = fs.length →
    (∀ (i : Nat) (f : Field), fs[i]? = some f → DataW.trod enc P w 0 spare held n f.type ((cs.drop f.offset).take (P.cellsOf f.type)) = xs[i]?) → (∀ x ∈ xs, μ x.1 ≤ B) →
    ∃ avs : List AV, cs.length - off = avs.length ∧ avs.all AV.isCell = true ∧ (∀ j, j < avs.length → FV w (fun b => b < w.heap.size) (cs.getD (off + j) undef) (avs.getD j .undef)) ∧ pAll ps B avs
  | [], ps, off, xs, hF, hC, hle, hl, hx, hB => by
    cases hF
    have := Nat.eq_of_beq_eq_true hC
    exact ⟨[], by simp; omega, rfl, fun j hj => by simp at hj, rfl⟩
  | f :: fs, ps, off, xs, hF, hC, hle, hl, hx, hB => by
    cases hF with
    | cons h hr =>
      rename_i p ps
      simp only [contig, Bool.and_eq_true] at hC
      have ho := Nat.eq_of_beq_eq_true hC.1
      cases xs with
      | nil => simp at hl
      | cons x xs =>
        have h0 := hx 0 f rfl
        simp only [List.getElem?_cons_zero] at h0
        obtain ⟨a, g1, g2, g3, g4⟩ := h H enc w spare held μ hμ n _ x.1 x.2 B h0 (hB x (by simp))
        have hcl : off + P.cellsOf f.type ≤ cs.length := by
          have key : ∀ (fs : List Field) (o : Nat), contig P o fs cs.length = true → o ≤ cs.length := fun fs => by
            induction fs with
            | nil => intro o h; exact Nat.le_of_eq (Nat.eq_of_beq_eq_true h)
            | cons f fs ih =>
              intro o h
              simp only [contig, Bool.and_eq_true] at h
              have := ih _ h.2
              omega
          exact key fs _ hC.2
        have ha : a.length = P.cellsOf f.type := by
          rw [← g1]; simp; omega
        obtain ⟨b, k1, k2, k3, k4⟩ := fields_read hμ fs ps (off + P.cellsOf f.type) xs hr hC.2 hcl (by simpa using hl) (fun i f' hf' => by simpa using hx (i + 1) f' (by simpa using hf')) (fun y hy => hB y (by simp [hy]))
        refine ⟨a ++ b, by simp; omega, by simp [g2, k2], fun j hj => ?_, a, b, rfl, g4, k4⟩
        by_cases hj2 : j < a.length
        · have e1 : (a ++ b).getD j .undef = a.getD j .undef := by simp only [List.getD_eq_getElem?_getD]; rw [List.getElem?_append_left hj2]
          have e2 : ((cs.drop f.offset).take (P.cellsOf f.type)).getD j undef = cs.getD (off + j) undef := by
            simp only [List.getD_eq_getElem?_getD, List.getElem?_take, List.getElem?_drop]
            rw [if_pos (by omega), ho]
          rw [e1, ← e2]
          exact g3 j hj2
        · have hj3 : j - a.length < b.length := by simp at hj; omega
          have e1 : (a ++ b).getD j .undef = b.getD (j - a.length) .undef := by simp only [List.getD_eq_getElem?_getD]; rw [List.getElem?_append_right (by omega)]
          have e2 : off + j = off + P.cellsOf f.type + (j - a.length) := by omega
          rw [e1, e2]
          exact k3 _ hj3

theorem readsAs_struct {fs : Array Field} {ps : List Pat} (ht : P.underlying t = some (.struct fs)) (hc : contig P 0 fs.toList (P.cellsOf t) = true) (hf : Fits P fs.toList ps) : ReadsAs P t (pAll ps) := fun H enc w spare held μ hμ fuel cs d pl B h hB => by
  obtain ⟨xs, n, rfl, hx, hl, hxl, hread⟩ := DataW.trod_struct ht h
  cases hx
  obtain ⟨avs, g1, g2, g3, g4⟩ := fields_read (P := P) hμ (enc := enc) (w := w) (spare := spare) (held := held) (n := n) (B := B) (cs := cs) fs.toList ps 0 xs hf (by rw [hl]; exact hc) (Nat.zero_le _) (by simpa using hxl) (fun i f hf => by simpa using hread i f (by simpa using hf))
    (fun x hx => Nat.le_trans (hμ.part _ _ (List.mem_map.2 ⟨x, hx, rfl⟩)) hB)
  exact ⟨avs, by simpa using g1, g2, fun j hj => by simpa using g3 j hj, g4⟩

/-- One argument, of a type of one cell. -/
theorem arg_one {H : Type} {enc : TypeId × Value → H} {w : World} {μ : DataW H → Nat} (hμ : Meas μ) {v : Value} {d : DataW H} {ps : List MemPlace} {B : Nat} (hr : ReadsAs P t p) (hv : v.cells = #[v]) (h : DataW.Trod enc P w 0 (fun _ => true) true t v d ps) (hB : μ d ≤ B) (h1 : ∀ avs, p B avs → ∃ a, avs = [a]) :
    ∃ a, FV w (fun b => b < w.heap.size) v a ∧ p B [a] := by
  obtain ⟨fuel, hf⟩ := h
  obtain ⟨avs, g1, g2, g3, g4⟩ := hr H enc w _ _ μ hμ fuel _ d ps B hf hB
  obtain ⟨a, rfl⟩ := h1 avs g4
  have := g3 0 (by simp)
  rw [hv] at this
  exact ⟨a, this, g4⟩
theorem arg_agg {H : Type} {enc : TypeId × Value → H} {w : World} {μ : DataW H → Nat} (hμ : Meas μ) {vs : Array Value} {d : DataW H} {ps : List MemPlace} {B : Nat} (hr : ReadsAs P t p) (h : DataW.Trod enc P w 0 (fun _ => true) true t (.agg vs) d ps) (hB : μ d ≤ B) :
    ∃ avs, FV w (fun b => b < w.heap.size) (.agg vs) (.agg avs) ∧ p B avs := by
  obtain ⟨fuel, hf⟩ := h
  obtain ⟨avs, g1, g2, g3, g4⟩ := hr H enc w _ _ μ hμ fuel _ d ps B hf hB
  exact ⟨avs, .agg vs avs (by simpa [Value.cells] using g1) (fun j hj => by simpa [Value.cells] using g3 j hj), g4⟩

/-- **A row's step: the function is handed data that is only read, and says true.** -/
theorem Pure.calls {f : Nat} {args : List AV} (h : Pure P f args fun r => r = .bool true) {W : World} {vs : Array Value} (hs : vs.size = args.length) (hv : ∀ j, j < args.length → FV W (fun b => b < W.heap.size) (vs.getD j undef) (args.getD j .undef)) :
    Calls P f vs W fun e W' => e = .returned (.bool true) ∧ RowKit.Below W.heap.size W W' := by
  refine (h.2 (fun _ => False) (fun _ => False) W W (fun _ => .none) vs (WS.self fun b hb => hb.elim) hs (fun j hj => .fz ((hv j hj).mono fun b hb => ⟨⟨hb, fun h => h, fun ⟨i, c, hi, _⟩ => by simp [mem0, AO.live] at hi⟩, rfl⟩))).mono fun e W' ⟨u, r, m', bl', he, hr, hw, hu, _, _⟩ => ?_
  subst hr
  rw [he, hu.bool_inv]
  exact ⟨rfl, hw.os, hw.tape, hw.output, hw.size, fun k hk => hw.frame k hk fun h => h⟩

open Go.ChangeShapes Go.RowKit in
/-- **The row's end: nothing that was there has turned.** -/
theorem post_below {H : Type} {enc : TypeId × Value → H} {f : Func} {s : ChangeSpec} {apart fresh handsOn again : Bool} {W W' : World} {args : Array Value} {v : Value} {ds gs : List (DataW H)} {before pa : List MemPlace}
    (hW : DataW.Whole enc P f.params.toList s.vars apart W args.toList ds gs before) (hb : Below W.heap.size W W') (hvs : s.vars = []) 
    (hres : ∀ (b : Nat) (sp : Nat → Bool) (hd : Bool), DataW.TrodAll enc P W' b sp hd f.resultTypes.toList (v.resultList f.resultTypes.size) (s.fn H (ds ++ gs)).results [])
    (hargs : ∀ sp : Nat → Bool, (∀ p ∈ before, sp p.block = true) → DataW.TrodAll enc P W' 0 sp true f.params.toList args.toList (s.fn H (ds ++ gs)).args pa)
    (hvars : (s.fn H (ds ++ gs)).vars = []) (hps : before = pa)
    (hok : ∀ (j : Nat) (t : TypeId) (r : Value), f.resultTypes[j]? = some t → (v.resultList f.resultTypes.size)[j]? = some r → Value.okWide P W' .any 0 t r) :
    s.post enc P f apart fresh handsOn again W args v W' := by
  have hold : ∀ p ∈ before, (fun b => decide (b < W.heap.size)) p.block = true := fun p hp => by simpa using hW.lt p hp
  have hv : ∀ sp : Nat → Bool, DataW.TrodVars enc P W' sp s.vars (s.fn H (ds ++ gs)).vars [] := fun sp => by rw [hvs, hvars]; rfl
  refine ⟨ds, gs, before, [], pa, [], hW, hres _ _ _, hargs _ hold, hv _, hb.frame _, fun _ => ?_⟩
  have hlt := hW.lt
  obtain ⟨_, _, _, _, _, hz, hn⟩ := hW
  refine ⟨hok, _, _, ([] ++ pa) ++ [], ⟨[] ++ pa, [], trodAll_append (hargs _ (fun _ _ => rfl)) (hres _ _ _), hv _, rfl, ?_, ?_⟩, ?_⟩
  · intro b off hp
    have hp' : MemPlace.cell b off ∈ before := by rw [hps]; simpa using hp
    rw [hb.frozen (p := ⟨b, off, none⟩) (hlt _ hp')]
    exact hz b off hp'
  · intro ha
    have := hn ha
    rw [hps] at this
    simpa using this
  · intro p hp _
    rw [hps]
    simpa using hp

end Go.Ab
