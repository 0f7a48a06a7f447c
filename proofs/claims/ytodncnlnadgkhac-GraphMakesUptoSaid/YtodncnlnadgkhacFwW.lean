/- Other ways to see a state: nil slices inside a row's elements as slices of length 0. -/
import Derived.Test.YtodncnlnadgkhacFwV
import Derived.Test.YtodncnlnadgkhacFwZ
import Derived.Test.YtodncnlnadgkhacFwR
set_option linter.unusedSimpArgs false
set_option linter.unusedVariables false
namespace Go.Ab
open Go
theorem getD_setE {l : List AV} {c : Nat} {v d : AV} (h : c < l.length) : (l.set c v).getD c d = v := by
  rw [List.getD_eq_getElem?_getD, List.getElem?_set_self h, Option.getD_some]
theorem getD_setN {l : List AV} {c j : Nat} {v d : AV} (h : c ≠ j) : (l.set c v).getD j d = l.getD j d := by
  rw [List.getD_eq_getElem?_getD, List.getElem?_set_ne h, ← List.getD_eq_getElem?_getD]
theorem wk1_cells (a : AV) : (wk1 a).cells = a.cells.map wk0 := by
  cases a <;> rfl
theorem Shift.wk {e : Env} {m : Mem} {id v es sz n : Nat} {f : Nat → AV} (hm : m id = .row v es sz n f) : Shift e m e (Mem.set id (.row v es sz n fun i => wk1 (f i)) m) := fun X Y w0 w bl t hw hv => by
  have hob := hw.obj id
  rw [hm] at hob
  obtain ⟨g1, g2, g3⟩ := WS.upd (w' := w) hw id (.row v es sz n fun i => wk1 (f i)) (bl id) (by rw [hm]; exact Nat.le_refl _) (fun _ => ⟨by rw [hm]; exact ⟨rfl, rfl, Nat.le_refl _⟩, rfl⟩) rfl rfl rfl (Nat.le_refl _) (fun _ _ _ => rfl)
    (fun b c _ hb => ⟨.inr ⟨by rw [hm]; rfl, c, hb⟩, (hw.own id b c (by rw [hm]; rfl) hb).2.2⟩)
    (fun hF hk => by
      obtain ⟨h0, xs, h1, h2⟩ := hob
      refine ⟨h0, xs, h1, fun i hi => ⟨by rw [wk1_cells, List.length_map]; exact (h2 i hi).1, fun j hj => ?_⟩⟩
      rw [wk1_cells, getD_map _ _ (by rw [(h2 i hi).1]; exact hj)]
      exact (((h2 i hi).2 j hj).mono hF).wk0)
  exact ⟨_, g1, fun q => (hv q).mono g2 g3, fun b hb => (g2 b hb).1, g3⟩
theorem Shift.nameC {e : Env} {m : Mem} {s t r v wv es sz n vr er sr nr i k c : Nat} {f g : Nat → AV} (hs : m s = .row v es sz n f) (ht : m t = .dead wv) (hr : m r = .vrow vr er sr nr g) (hi : i < nr) (hc : c < sr) (hg : (g i).cells.getD c .undef = .sl s v k) (a' : AV) (ha : a'.cells = (g i).cells.set c (.sl t (wv + 1) k)) :
    Shift e m e (Mem.set r (.vrow vr er sr nr (fun j => bif Nat.beq j i then a' else g j)) (Mem.set t (.row (wv + 1) es sz n f) (Mem.set s (.dead (v + 1)) m))) := fun X Y w0 w bl tm hw hv => by
  have hst : s ≠ t := fun h => by subst h; rw [hs] at ht; cases ht
  have hrt : r ≠ t := fun h => by subst h; rw [hr] at ht; cases ht
  have hrs : r ≠ s := fun h => by subst h; rw [hr] at hs; cases hs
  generalize hM : Mem.set r (.vrow vr er sr nr (fun j => bif Nat.beq j i then a' else g j)) (Mem.set t (.row (wv + 1) es sz n f) (Mem.set s (.dead (v + 1)) m)) = M
  have mr : M r = .vrow vr er sr nr (fun j => bif Nat.beq j i then a' else g j) := by rw [← hM, set_same]
  have mt : M t = .row (wv + 1) es sz n f := by rw [← hM, set_ne (Ne.symm hrt), set_same]
  have ms : M s = .dead (v + 1) := by rw [← hM, set_ne (Ne.symm hrs), set_ne hst, set_same]
  have mo : ∀ j, j ≠ r → j ≠ t → j ≠ s → M j = m j := fun j h1 h2 h3 => by rw [← hM, set_ne h1, set_ne h2, set_ne h3]
  clear hM
  have bt : updL t (bl s) bl t = bl s := updL_same _ _ _
  have bo : ∀ j, j ≠ t → updL t (bl s) bl j = bl j := fun j h => updL_ne h _ _
  have hk : Later m M bl (updL t (bl s) bl) := fun j => by
    by_cases e1 : j = t
    · subst e1; rw [ht, mt]; exact ⟨Nat.le_succ _, fun h => absurd h (Nat.succ_ne_self wv)⟩
    · rw [bo j e1]
      by_cases e2 : j = s
      · subst e2; rw [hs, ms]; exact ⟨Nat.le_succ _, fun h => absurd h (Nat.succ_ne_self v)⟩
      · by_cases e3 : j = r
        · subst e3; rw [hr, mr]; exact ⟨Nat.le_refl _, fun _ => ⟨⟨rfl, rfl, Nat.le_refl _⟩, rfl⟩⟩
        · rw [mo j e3 e1 e2]; exact ⟨Nat.le_refl _, fun _ => ⟨Kept.refl _, rfl⟩⟩
  have live : ∀ j, (M j).live = true → (j = t ∧ (m s).live = true) ∨ (j ≠ t ∧ (m j).live = true) := fun j hj => by
    by_cases e1 : j = t
    · exact .inl ⟨e1, by rw [hs]; rfl⟩
    · refine .inr ⟨e1, ?_⟩
      by_cases e2 : j = s
      · subst e2; rw [ms] at hj; cases hj
      · by_cases e3 : j = r
        · subst e3; rw [hr]; rfl
        · rw [mo j e3 e1 e2] at hj; exact hj
  have hown : ∀ b, Own (updL t (bl s) bl) M b → Own bl m b := fun b ⟨j, c, hj, hb⟩ => by
    rcases live j hj with ⟨rfl, h⟩ | ⟨h1, h⟩
    · rw [bt] at hb; exact ⟨s, c, h, hb⟩
    · rw [bo j h1] at hb; exact ⟨j, c, h, hb⟩
  have hF : ∀ b, Fr X w bl m b → Fr X w (updL t (bl s) bl) M b ∧ w.heap[b]? = w.heap[b]? := fun b ⟨h1, h2, h3⟩ => ⟨⟨h1, h2, fun h => h3 (hown b h)⟩, rfl⟩
  have name : ∀ j, (M j).live = true → ∃ j', (m j').live = true ∧ updL t (bl s) bl j = bl j' ∧ ((j = t ∧ j' = s) ∨ (j ≠ t ∧ j ≠ s ∧ j' = j)) := fun j hj => by
    rcases live j hj with ⟨rfl, h⟩ | ⟨h1, h⟩
    · exact ⟨s, h, bt, .inl ⟨rfl, rfl⟩⟩
    · exact ⟨j, h, bo j h1, .inr ⟨h1, (fun e2 => by subst e2; rw [ms] at hj; cases hj), rfl⟩⟩
  refine ⟨updL t (bl s) bl, ⟨hw.os, hw.tape, hw.output, hw.size, hw.xlt, hw.frame, fun j => ?_, fun j q b c d hj hq hbj hbq => ?_, fun j b c hj hb => ?_⟩, fun q => (hv q).mono hF hk, fun b hb => (hF b hb).1, hk⟩
  · by_cases e1 : j = t
    · subst e1
      rw [mt, bt]
      have := hw.obj s
      rw [hs] at this
      exact OO.mono hF hk (fun _ _ _ => rfl) this
    · rw [bo j e1]
      by_cases e2 : j = s
      · subst e2; rw [ms]; trivial
      · by_cases e3 : j = r
        · subst e3
          rw [mr]
          have := hw.obj j
          rw [hr] at this
          obtain ⟨h0, xs, h1, h2⟩ := this
          refine ⟨h0, xs, h1, fun q hq => ?_⟩
          by_cases e4 : q = i
          · subst e4
            obtain ⟨h3, h4⟩ := h2 q hq
            simp only [Nat.beq_refl, cond_true]
            refine ⟨by rw [ha, List.length_set]; exact h3, fun j' hj' => ?_⟩
            rw [ha]
            by_cases e5 : j' = c
            · subst e5
              have hx := h4 j' hj'
              rw [hg] at hx
              rw [getD_setE (by rw [h3]; exact hj')]
              obtain ⟨A, c1, c2, hu, hh⟩ := hx.sl_inv
              obtain ⟨hle, hu2⟩ := hh _ _ _ _ hs
              rw [hu]
              refine .sl A c1 c2 t (wv + 1) k (by rw [mt]; exact Nat.le_refl _) (fun e' sz' m' f' hm' => ?_)
              rw [mt] at hm'
              cases hm'
              rw [bt]
              exact ⟨hle, by rw [← hu]; exact hu2⟩
            · rw [getD_setN (Ne.symm e5)]
              exact (h4 j' hj').mono hF hk
          · simp only [beq_false_of_ne e4, cond_false]
            exact ⟨(h2 q hq).1, fun j' hj' => ((h2 q hq).2 j' hj').mono hF hk⟩
        · rw [mo j e3 e1 e2]
          exact OO.mono hF hk (fun _ _ _ => rfl) (hw.obj j)
  · obtain ⟨j', h1, h2, h3⟩ := name j hj
    obtain ⟨q', k1, k2, k3⟩ := name q hq
    have := hw.inj j' q' b c d h1 k1 (h2 ▸ hbj) (k2 ▸ hbq)
    rcases h3 with ⟨a1, a2⟩ | ⟨a1, a2, a3⟩ <;> rcases k3 with ⟨c1, c2⟩ | ⟨c1, c2, c3⟩
    · rw [a1, c1]
    · exact absurd (this.symm.trans a2) (by rw [c3]; exact c2)
    · exact absurd (this.trans c2) (by rw [a3]; exact a2)
    · rw [← a3, ← c3]; exact this
  · obtain ⟨j', h1, h2, _⟩ := name j hj
    exact hw.own j' b c h1 (h2 ▸ hb)
theorem Shift.vrowD {e : Env} {m : Mem} {id o v vo es sz n k c : Nat} {f : Nat → AV} {cs : List AV} (hm : m id = .row v es sz n f) (ho : m o = .var vo cs) (hc : c < cs.length) (hg : cs.getD c .undef = .sl id v k) : Shift e m e (Mem.set o (.var vo (cs.set c (.vs id (v + 1) k))) (Mem.set id (.vrow (v + 1) es sz n f) m)) := fun X Y w0 w bl t hw hv => by
  have hne : o ≠ id := fun h => by subst h; rw [ho] at hm; cases hm
  have hmv : (m id).ver = v := by rw [hm]; rfl
  have hob := hw.obj id
  rw [hm] at hob
  have hoo := hw.obj o
  rw [ho] at hoo
  obtain ⟨b0, c0, arr, et, hl0, hh0, hs0, hr0⟩ := hoo
  obtain ⟨g1, g2, g3⟩ := WS.upd (w' := w) hw id (.vrow (v + 1) es sz n f) (bl id) (by rw [hmv]; exact Nat.le_succ v) (fun h => by rw [hmv] at h; exact absurd h (Nat.succ_ne_self v)) rfl rfl rfl (Nat.le_refl _) (fun _ _ _ => rfl)
    (fun b c _ hb => ⟨.inr ⟨by rw [hm]; rfl, c, hb⟩, (hw.own id b c (by rw [hm]; rfl) hb).2.2⟩)
    (fun hF hk => by
      obtain ⟨h0, xs, h1, h2⟩ := hob
      refine ⟨h0, xs, h1, fun i hi => ⟨(h2 i hi).1, fun j hj => ?_⟩⟩
      exact .fz (((h2 i hi).2 j hj).mono hF))
  have ho1 : Mem.set id (.vrow (v + 1) es sz n f) m o = .var vo cs := by rw [set_ne hne]; exact ho
  have hb1 : updL id (bl id) bl o = bl o := updL_ne hne _ _
  obtain ⟨k1, k2, k3⟩ := WS.upd (w' := w) g1 o (.var vo (cs.set c (.vs id (v + 1) k))) (updL id (bl id) bl o) (by rw [ho1]; exact Nat.le_refl _) (fun _ => ⟨by rw [ho1]; simp [Kept], rfl⟩) rfl rfl rfl (Nat.le_refl _) (fun _ _ _ => rfl)
    (fun b c _ hb => ⟨.inr ⟨by rw [ho1]; rfl, c, hb⟩, (g1.own o b c (by rw [ho1]; rfl) hb).2.2⟩)
    (fun hF hk => by
      refine ⟨b0, c0, arr, et, by rw [hb1]; exact hl0, hh0, by rw [List.length_set]; exact hs0, fun j hj => ?_⟩
      rw [List.length_set] at hj
      by_cases e5 : j = c
      · subst e5
        have hx := hr0 j hj
        rw [hg] at hx
        rw [getD_setE hj]
        obtain ⟨A, c1, c2, hu, hh⟩ := hx.sl_inv
        obtain ⟨hle, hu2⟩ := hh _ _ _ _ hm
        have hid : Mem.set o (.var vo (cs.set j (.vs id (v + 1) k))) (Mem.set id (.vrow (v + 1) es sz n f) m) id = .vrow (v + 1) es sz n f := by rw [set_ne (Ne.symm hne), set_same]
        rw [hu]
        refine .vs A c1 c2 id (v + 1) k (by rw [hid]; exact Nat.le_refl _) (fun e' sz' m' f' hm' => ?_)
        rw [hid] at hm'
        cases hm'
        rw [updL_ne (Ne.symm hne), updL_same]
        exact ⟨hle, by rw [← hu]; exact hu2⟩
      · rw [getD_setN (Ne.symm e5)]
        exact ((hr0 j hj).mono (fun b hb => g2 b hb) g3).mono hF hk)
  exact ⟨_, k1, fun q => ((hv q).mono g2 g3).mono k2 k3, fun b hb => (k2 b (g2 b hb).1).1, g3.trans k3⟩
theorem CallX.mono {P : Program} {s f : Nat} {args : List AV} {mem : Mem} {K K' : AV → Mem → Prop} (h : CallX P s f args mem K) (hk : ∀ r m, K r m → K' r m) : CallX P s f args mem K' := by
  obtain ⟨R, h1, h2, h3⟩ := h
  exact ⟨R, h1, h2, fun r m hr => ⟨hk r m (h3 r m hr).1, (h3 r m hr).2⟩⟩
theorem AccP.wk {S : List Nat} {es sz n : Nat} {q : Nat → AV → Prop} {v : AV} {m : Mem} (h : AccP S es sz n (fun i a => q i (wk1 a)) v m) : ∃ m', (∀ e, Shift e m e m') ∧ AccP S es sz n q v m' ∧ ∀ o, o ∉ S → m' o = m o := by
  obtain h | ⟨s, ver, g, h1, h2, h3, h4, h5⟩ := h
  · exact ⟨m, fun e => Shift.refl e m, .inl h, fun _ _ => rfl⟩
  · exact ⟨_, fun e => Shift.wk h3, .inr ⟨s, ver, _, h1, h2, set_same _ _ _, h4, h5⟩, fun o ho => set_ne (fun e => by subst e; exact ho h1) _ _⟩
end Go.Ab
