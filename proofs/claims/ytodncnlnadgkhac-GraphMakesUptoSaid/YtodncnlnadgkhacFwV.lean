/- Other ways to see a state: a row whose elements may lead to own objects; an own row under another name. -/
import Derived.Test.YtodncnlnadgkhacFwT
set_option linter.unusedSimpArgs false
set_option linter.unusedVariables false
namespace Go.Ab
open Go

/-- **A row becomes one whose elements may lead to own objects.** -/
theorem Shift.vrow {e : Env} {m : Mem} {id v es sz n k d : Nat} {f : Nat → AV} (hm : m id = .row v es sz n f) (hd : e d = .sl id v k) : Shift e m (Env.put d (.vs id (v + 1) k) e) (Mem.set id (.vrow (v + 1) es sz n f) m) := fun X Y w0 w bl t hw hv => by
  have hmv : (m id).ver = v := by rw [hm]; rfl
  have hob := hw.obj id
  rw [hm] at hob
  obtain ⟨g1, g2, g3⟩ := WS.upd (w' := w) hw id (.vrow (v + 1) es sz n f) (bl id) (by rw [hmv]; exact Nat.le_succ v) (fun h => by rw [hmv] at h; exact absurd h (Nat.succ_ne_self v)) rfl rfl rfl (Nat.le_refl _) (fun _ _ _ => rfl)
    (fun b c _ hb => ⟨.inr ⟨by rw [hm]; rfl, c, hb⟩, (hw.own id b c (by rw [hm]; rfl) hb).2.2⟩)
    (fun hF hk => by
      obtain ⟨h0, xs, h1, h2⟩ := hob
      exact ⟨h0, xs, h1, fun i hi => ⟨(h2 i hi).1, fun j hj => .fz (((h2 i hi).2 j hj).mono hF)⟩⟩)
  refine ⟨_, g1, fun q => ?_, fun b hb => (g2 b hb).1, g3⟩
  unfold Env.put
  cases hq : Nat.beq q d with
  | false => exact (hv q).mono g2 g3
  | true =>
    have := Nat.eq_of_beq_eq_true hq
    subst this
    have hx := hv q
    rw [hd] at hx
    obtain ⟨A, c1, c2, hu, hh⟩ := hx.sl_inv
    obtain ⟨hle, hu2⟩ := hh _ _ _ _ hm
    simp only [cond_true]
    rw [hu]
    refine .vs A c1 c2 id (v + 1) k (by rw [set_same]; exact Nat.le_refl _) (fun e' sz' m' f' hm' => ?_)
    rw [set_same] at hm'
    cases hm'
    rw [updL_same]
    exact ⟨hle, by rw [← hu]; exact hu2⟩

/-- **An own row to which an element leads goes by another name.** -/
theorem Shift.name {e : Env} {m : Mem} {s t r v wv es sz n vr er sr nr i k : Nat} {f g : Nat → AV} (hs : m s = .row v es sz n f) (ht : m t = .dead wv) (hr : m r = .vrow vr er sr nr g) (hi : i < nr) (hg : g i = .sl s v k) :
    Shift e m e (Mem.set r (.vrow vr er sr nr (fun j => bif Nat.beq j i then .sl t (wv + 1) k else g j)) (Mem.set t (.row (wv + 1) es sz n f) (Mem.set s (.dead (v + 1)) m))) := fun X Y w0 w bl tm hw hv => by
  have hst : s ≠ t := fun h => by subst h; rw [hs] at ht; cases ht
  have hrt : r ≠ t := fun h => by subst h; rw [hr] at ht; cases ht
  have hrs : r ≠ s := fun h => by subst h; rw [hr] at hs; cases hs
  generalize hM : Mem.set r (.vrow vr er sr nr (fun j => bif Nat.beq j i then .sl t (wv + 1) k else g j)) (Mem.set t (.row (wv + 1) es sz n f) (Mem.set s (.dead (v + 1)) m)) = M
  have mr : M r = .vrow vr er sr nr (fun j => bif Nat.beq j i then .sl t (wv + 1) k else g j) := by rw [← hM, set_same]
  have mt : M t = .row (wv + 1) es sz n f := by rw [← hM, set_ne (Ne.symm hrt), set_same]
  have ms : M s = .dead (v + 1) := by rw [← hM, set_ne (Ne.symm hrs), set_ne hst, set_same]
  have mo : ∀ j, j ≠ r → j ≠ t → j ≠ s → M j = m j := fun j h1 h2 h3 => by rw [← hM, set_ne h1, set_ne h2, set_ne h3]
  clear hM
  have bt : updL t (bl s) bl t = bl s := updL_same _ _ _
  have bo : ∀ j, j ≠ t → updL t (bl s) bl j = bl j := fun j h => updL_ne h _ _
  have hk : Later m M bl (updL t (bl s) bl) := fun j => by
    by_cases e1 : j = t
    · subst e1; rw [ht, mt]; exact ⟨Nat.le_succ _, fun h => absurd h (Nat.succ_ne_self wv)⟩
    · rw [bo j e1]
      by_cases e2 : j = s
      · subst e2; rw [hs, ms]; exact ⟨Nat.le_succ _, fun h => absurd h (Nat.succ_ne_self v)⟩
      · by_cases e3 : j = r
        · subst e3; rw [hr, mr]; exact ⟨Nat.le_refl _, fun _ => ⟨⟨rfl, rfl, Nat.le_refl _⟩, rfl⟩⟩
        · rw [mo j e3 e1 e2]; exact ⟨Nat.le_refl _, fun _ => ⟨Kept.refl _, rfl⟩⟩
  have live : ∀ j, (M j).live = true → (j = t ∧ (m s).live = true) ∨ (j ≠ t ∧ (m j).live = true) := fun j hj => by
    by_cases e1 : j = t
    · exact .inl ⟨e1, by rw [hs]; rfl⟩
    · refine .inr ⟨e1, ?_⟩
      by_cases e2 : j = s
      · subst e2; rw [ms] at hj; cases hj
      · by_cases e3 : j = r
        · subst e3; rw [hr]; rfl
        · rw [mo j e3 e1 e2] at hj; exact hj
  have hown : ∀ b, Own (updL t (bl s) bl) M b → Own bl m b := fun b ⟨j, c, hj, hb⟩ => by
    rcases live j hj with ⟨rfl, h⟩ | ⟨h1, h⟩
    · rw [bt] at hb; exact ⟨s, c, h, hb⟩
    · rw [bo j h1] at hb; exact ⟨j, c, h, hb⟩
  have hF : ∀ b, Fr X w bl m b → Fr X w (updL t (bl s) bl) M b ∧ w.heap[b]? = w.heap[b]? := fun b ⟨h1, h2, h3⟩ => ⟨⟨h1, h2, fun h => h3 (hown b h)⟩, rfl⟩
  have name : ∀ j, (M j).live = true → ∃ j', (m j').live = true ∧ updL t (bl s) bl j = bl j' ∧ ((j = t ∧ j' = s) ∨ (j ≠ t ∧ j ≠ s ∧ j' = j)) := fun j hj => by
    rcases live j hj with ⟨rfl, h⟩ | ⟨h1, h⟩
    · exact ⟨s, h, bt, .inl ⟨rfl, rfl⟩⟩
    · exact ⟨j, h, bo j h1, .inr ⟨h1, (fun e2 => by subst e2; rw [ms] at hj; cases hj), rfl⟩⟩
  refine ⟨updL t (bl s) bl, ⟨hw.os, hw.tape, hw.output, hw.size, hw.xlt, hw.frame, fun j => ?_, fun j q b c d hj hq hbj hbq => ?_, fun j b c hj hb => ?_⟩, fun q => (hv q).mono hF hk, fun b hb => (hF b hb).1, hk⟩
  · by_cases e1 : j = t
    · subst e1
      rw [mt, bt]
      have := hw.obj s
      rw [hs] at this
      exact OO.mono hF hk (fun _ _ _ => rfl) this
    · rw [bo j e1]
      by_cases e2 : j = s
      · subst e2; rw [ms]; trivial
      · by_cases e3 : j = r
        · subst e3
          rw [mr]
          have := hw.obj j
          rw [hr] at this
          obtain ⟨h0, xs, h1, h2⟩ := this
          refine ⟨h0, xs, h1, fun q hq => ?_⟩
          by_cases e4 : q = i
          · subst e4
            obtain ⟨h3, h4⟩ := h2 q hq
            rw [hg] at h3 h4
            simp only [Nat.beq_refl, cond_true]
            refine ⟨h3, fun j' hj' => ?_⟩
            have h3' : 1 = sr := h3
            obtain rfl : j' = 0 := by omega
            have hx := h4 0 hj'
            simp only [AV.cells, List.getD_cons_zero] at hx ⊢
            obtain ⟨A, c1, c2, hu, hh⟩ := hx.sl_inv
            obtain ⟨hle, hu2⟩ := hh _ _ _ _ hs
            rw [hu]
            refine .sl A c1 c2 t (wv + 1) k (by rw [mt]; exact Nat.le_refl _) (fun e' sz' m' f' hm' => ?_)
            rw [mt] at hm'
            cases hm'
            rw [bt]
            exact ⟨hle, by rw [← hu]; exact hu2⟩
          · simp only [beq_false_of_ne e4, cond_false]
            exact ⟨(h2 q hq).1, fun j' hj' => ((h2 q hq).2 j' hj').mono hF hk⟩
        · rw [mo j e3 e1 e2]
          exact OO.mono hF hk (fun _ _ _ => rfl) (hw.obj j)
  · obtain ⟨j', h1, h2, h3⟩ := name j hj
    obtain ⟨q', k1, k2, k3⟩ := name q hq
    have := hw.inj j' q' b c d h1 k1 (h2 ▸ hbj) (k2 ▸ hbq)
    rcases h3 with ⟨a1, a2⟩ | ⟨a1, a2, a3⟩ <;> rcases k3 with ⟨c1, c2⟩ | ⟨c1, c2, c3⟩
    · rw [a1, c1]
    · exact absurd (this.symm.trans a2) (by rw [c3]; exact c2)
    · exact absurd (this.trans c2) (by rw [a3]; exact a2)
    · rw [← a3, ← c3]; exact this
  · obtain ⟨j', h1, h2, _⟩ := name j hj
    exact hw.own j' b c h1 (h2 ▸ hb)

/-- **An own row to which an element leads is only read from now on.** -/
theorem Shift.frz {e : Env} {m : Mem} {s r v es sz n vr er sr nr i k : Nat} {f g : Nat → AV} (hs : m s = .row v es sz n f) (hr : m r = .vrow vr er sr nr g) (hi : i < nr) (hg : g i = .sl s v k) :
    Shift e m e (Mem.set r (.vrow vr er sr nr (fun j => bif Nat.beq j i then .fs k f else g j)) (Mem.set s (.dead (v + 1)) m)) := fun X Y w0 w bl tm hw hv => by
  have hrs : r ≠ s := fun h => by subst h; rw [hr] at hs; cases hs
  have hob := hw.obj r
  rw [hr] at hob
  obtain ⟨h0, xs, h1, h2⟩ := hob
  obtain ⟨h3, h4⟩ := h2 i hi
  rw [hg] at h3 h4
  have h3' : 1 = sr := h3
  have hx := h4 0 (by omega)
  simp only [AV.cells, List.getD_cons_zero] at hx
  obtain ⟨bl1, f1, f2, f3, f4⟩ := frzA_sound hw hx (v' := .fs k f) (c := (v = v)) (mem' := Mem.set s (.dead (v + 1)) m) (by simp only [frzA, frz0, hs]) rfl
  have hr1 : Mem.set s (.dead (v + 1)) m r = .vrow vr er sr nr g := by rw [set_ne hrs]; exact hr
  have hbr : bl1 r = bl r := ((f3 r).2 (by rw [hr1, hr])).2
  have fm : ∀ b, Fr X w bl m b → Fr X w bl1 (Mem.set s (.dead (v + 1)) m) b ∧ w.heap[b]? = w.heap[b]? := fun b hb => ⟨f2 b hb, rfl⟩
  obtain ⟨g1, g2, g3⟩ := WS.upd (w' := w) f1 r (.vrow vr er sr nr (fun j => bif Nat.beq j i then .fs k f else g j)) (bl1 r) (by rw [hr1]; exact Nat.le_refl _) (fun _ => ⟨by rw [hr1]; exact ⟨rfl, rfl, Nat.le_refl _⟩, rfl⟩) rfl rfl rfl (Nat.le_refl _) (fun _ _ _ => rfl)
    (fun b c _ hb => ⟨.inr ⟨by rw [hr1]; rfl, c, hb⟩, (f1.own r b c (by rw [hr1]; rfl) hb).2.2⟩)
    (fun hF hk => by
      refine ⟨h0, xs, by rw [hbr]; exact h1, fun q hq => ?_⟩
      by_cases e4 : q = i
      · subst e4
        simp only [Nat.beq_refl, cond_true]
        refine ⟨h3, fun j' hj' => ?_⟩
        obtain rfl : j' = 0 := by omega
        simp only [AV.cells, List.getD_cons_zero]
        exact .fz (f4.mono hF)
      · simp only [beq_false_of_ne e4, cond_false]
        exact ⟨(h2 q hq).1, fun j' hj' => (((h2 q hq).2 j' hj').mono fm f3).mono hF hk⟩)
  exact ⟨_, g1, fun q => ((hv q).mono fm f3).mono g2 g3, fun b hb => (g2 b (f2 b hb)).1, f3.trans g3⟩

/-- **A row whose elements lead to nothing of the call's own.** -/
theorem Shift.row {e : Env} {m : Mem} {id v es sz n k d : Nat} {f : Nat → AV} (hm : m id = .vrow v es sz n f) (hd : e d = .vs id v k) (hf : ∀ i, i < n → ∀ j, j < sz → isFz0 ((f i).cells.getD j .undef) = true ∨ (f i).cells.getD j .undef = .undef) : Shift e m (Env.put d (.sl id (v + 1) k) e) (Mem.set id (.row (v + 1) es sz n f) m) := fun X Y w0 w bl t hw hv => by
  have hmv : (m id).ver = v := by rw [hm]; rfl
  have hob := hw.obj id
  rw [hm] at hob
  obtain ⟨g1, g2, g3⟩ := WS.upd (w' := w) hw id (.row (v + 1) es sz n f) (bl id) (by rw [hmv]; exact Nat.le_succ v) (fun h => by rw [hmv] at h; exact absurd h (Nat.succ_ne_self v)) rfl rfl rfl (Nat.le_refl _) (fun _ _ _ => rfl)
    (fun b c _ hb => ⟨.inr ⟨by rw [hm]; rfl, c, hb⟩, (hw.own id b c (by rw [hm]; rfl) hb).2.2⟩)
    (fun hF hk => by
      obtain ⟨h0, xs, h1, h2⟩ := hob
      refine ⟨h0, xs, h1, fun i hi => ⟨(h2 i hi).1, fun j hj => ?_⟩⟩
      rcases hf i hi j hj with h | h
      · exact (((h2 i hi).2 j hj).toFz h).mono hF
      · rw [h]; exact .undef _)
  refine ⟨_, g1, fun q => ?_, fun b hb => (g2 b hb).1, g3⟩
  unfold Env.put
  cases hq : Nat.beq q d with
  | false => exact (hv q).mono g2 g3
  | true =>
    have := Nat.eq_of_beq_eq_true hq
    subst this
    have hx := hv q
    rw [hd] at hx
    obtain ⟨A, c1, c2, hu, hh⟩ := hx.vs_inv
    obtain ⟨hle, hu2⟩ := hh _ _ _ _ hm
    simp only [cond_true]
    rw [hu]
    refine .sl A c1 c2 id (v + 1) k (by rw [set_same]; exact Nat.le_refl _) (fun e' sz' m' f' hm' => ?_)
    rw [set_same] at hm'
    cases hm'
    rw [updL_same]
    exact ⟨hle, by rw [← hu]; exact hu2⟩

/-- An own row that is not turned any more is read only from here on. -/
theorem Shift.frz1 {e : Env} {m : Mem} {id v es sz n k d : Nat} {f : Nat → AV} (hm : m id = .row v es sz n f) (hd : e d = .sl id v k) : Shift e m (Env.put d (.fs k f) e) (Mem.set id (.dead (v + 1)) m) := fun X Y w0 w bl t hw hv => by
  have hx := hv d
  rw [hd] at hx
  obtain ⟨bl', g1, g2, g3, g4⟩ := frz_one hw hm hx
  refine ⟨bl', g1, fun q => ?_, g2, g3⟩
  unfold Env.put
  cases hq : Nat.beq q d with
  | false => exact (hv q).mono (fun b hb => ⟨g2 b hb, rfl⟩) g3
  | true =>
    have := Nat.eq_of_beq_eq_true hq
    subst this
    exact .fz g4
theorem Shift.trans {e1 e2 e3 : Env} {m1 m2 m3 : Mem} (h : Shift e1 m1 e2 m2) (k : Shift e2 m2 e3 m3) : Shift e1 m1 e3 m3 := fun X Y w0 w bl t hw hv => by
  obtain ⟨b1, a1, a2, a3, a4⟩ := h X Y w0 w bl t hw hv
  obtain ⟨b2, c1, c2, c3, c4⟩ := k X Y w0 w b1 t a1 a2
  exact ⟨b2, c1, c2, fun b hb => c3 b (a3 b hb), a4.trans c4⟩

/-- **The same where the slice stands in a variable.** -/
theorem Shift.vrowC {e : Env} {m : Mem} {id o v vo es sz n k : Nat} {f : Nat → AV} (hm : m id = .row v es sz n f) (ho : m o = .var vo [.sl id v k]) : Shift e m e (Mem.set o (.var vo [.vs id (v + 1) k]) (Mem.set id (.vrow (v + 1) es sz n f) m)) := fun X Y w0 w bl t hw hv => by
  have hne : o ≠ id := fun h => by subst h; rw [ho] at hm; cases hm
  have hmv : (m id).ver = v := by rw [hm]; rfl
  have hob := hw.obj id
  rw [hm] at hob
  have hoo := hw.obj o
  rw [ho] at hoo
  obtain ⟨b0, c0, arr, et, hl0, hh0, hs0, hr0⟩ := hoo
  obtain ⟨g1, g2, g3⟩ := WS.upd (w' := w) hw id (.vrow (v + 1) es sz n f) (bl id) (by rw [hmv]; exact Nat.le_succ v) (fun h => by rw [hmv] at h; exact absurd h (Nat.succ_ne_self v)) rfl rfl rfl (Nat.le_refl _) (fun _ _ _ => rfl)
    (fun b c _ hb => ⟨.inr ⟨by rw [hm]; rfl, c, hb⟩, (hw.own id b c (by rw [hm]; rfl) hb).2.2⟩)
    (fun hF hk => by
      obtain ⟨h0, xs, h1, h2⟩ := hob
      refine ⟨h0, xs, h1, fun i hi => ⟨(h2 i hi).1, fun j hj => ?_⟩⟩
      exact .fz (((h2 i hi).2 j hj).mono hF))
  have ho1 : Mem.set id (.vrow (v + 1) es sz n f) m o = .var vo [.sl id v k] := by rw [set_ne hne]; exact ho
  have hb1 : updL id (bl id) bl o = bl o := updL_ne hne _ _
  obtain ⟨k1, k2, k3⟩ := WS.upd (w' := w) g1 o (.var vo [.vs id (v + 1) k]) (updL id (bl id) bl o) (by rw [ho1]; exact Nat.le_refl _) (fun _ => ⟨by rw [ho1]; rfl, rfl⟩) rfl rfl rfl (Nat.le_refl _) (fun _ _ _ => rfl)
    (fun b c _ hb => ⟨.inr ⟨by rw [ho1]; rfl, c, hb⟩, (g1.own o b c (by rw [ho1]; rfl) hb).2.2⟩)
    (fun hF hk => by
      refine ⟨b0, c0, arr, et, by rw [hb1]; exact hl0, hh0, hs0, fun j hj => ?_⟩
      have hj1 : j < 1 := hj
      obtain rfl : j = 0 := by omega
      have hx := hr0 0 (Nat.lt_succ_self 0)
      simp only [List.getD_cons_zero] at hx ⊢
      obtain ⟨A, c1, c2, hu, hh⟩ := hx.sl_inv
      obtain ⟨hle, hu2⟩ := hh _ _ _ _ hm
      have hid : Mem.set o (.var vo [.vs id (v + 1) k]) (Mem.set id (.vrow (v + 1) es sz n f) m) id = .vrow (v + 1) es sz n f := by rw [set_ne (Ne.symm hne), set_same]
      rw [hu]
      refine .vs A c1 c2 id (v + 1) k (by rw [hid]; exact Nat.le_refl _) (fun e' sz' m' f' hm' => ?_)
      rw [hid] at hm'
      cases hm'
      rw [updL_ne (Ne.symm hne), updL_same]
      exact ⟨hle, by rw [← hu]; exact hu2⟩)
  exact ⟨_, k1, fun q => ((hv q).mono g2 g3).mono k2 k3, fun b hb => (k2 b (g2 b hb).1).1, g3.trans k3⟩

/-- **A row whose elements lead to nothing of the own, where the slice stands in a variable.** -/
theorem Shift.rowC {e : Env} {m : Mem} {id o v vo es sz n k : Nat} {f : Nat → AV} (hm : m id = .vrow v es sz n f) (ho : m o = .var vo [.vs id v k]) (hf : ∀ i, i < n → ∀ j, j < sz → isFz0 ((f i).cells.getD j .undef) = true ∨ (f i).cells.getD j .undef = .undef) : Shift e m e (Mem.set o (.var vo [.sl id (v + 1) k]) (Mem.set id (.row (v + 1) es sz n f) m)) := fun X Y w0 w bl t hw hv => by
  have hne : o ≠ id := fun h => by subst h; rw [ho] at hm; cases hm
  have hmv : (m id).ver = v := by rw [hm]; rfl
  have hob := hw.obj id
  rw [hm] at hob
  have hoo := hw.obj o
  rw [ho] at hoo
  obtain ⟨b0, c0, arr, et, hl0, hh0, hs0, hr0⟩ := hoo
  obtain ⟨g1, g2, g3⟩ := WS.upd (w' := w) hw id (.row (v + 1) es sz n f) (bl id) (by rw [hmv]; exact Nat.le_succ v) (fun h => by rw [hmv] at h; exact absurd h (Nat.succ_ne_self v)) rfl rfl rfl (Nat.le_refl _) (fun _ _ _ => rfl)
    (fun b c _ hb => ⟨.inr ⟨by rw [hm]; rfl, c, hb⟩, (hw.own id b c (by rw [hm]; rfl) hb).2.2⟩)
    (fun hF hk => by
      obtain ⟨h0, xs, h1, h2⟩ := hob
      refine ⟨h0, xs, h1, fun i hi => ⟨(h2 i hi).1, fun j hj => ?_⟩⟩
      rcases hf i hi j hj with h | h
      · exact (((h2 i hi).2 j hj).toFz h).mono hF
      · rw [h]; exact .undef _)
  have ho1 : Mem.set id (.row (v + 1) es sz n f) m o = .var vo [.vs id v k] := by rw [set_ne hne]; exact ho
  have hb1 : updL id (bl id) bl o = bl o := updL_ne hne _ _
  obtain ⟨k1, k2, k3⟩ := WS.upd (w' := w) g1 o (.var vo [.sl id (v + 1) k]) (updL id (bl id) bl o) (by rw [ho1]; exact Nat.le_refl _) (fun _ => ⟨by rw [ho1]; rfl, rfl⟩) rfl rfl rfl (Nat.le_refl _) (fun _ _ _ => rfl)
    (fun b c _ hb => ⟨.inr ⟨by rw [ho1]; rfl, c, hb⟩, (g1.own o b c (by rw [ho1]; rfl) hb).2.2⟩)
    (fun hF hk => by
      refine ⟨b0, c0, arr, et, by rw [hb1]; exact hl0, hh0, hs0, fun j hj => ?_⟩
      have hj1 : j < 1 := hj
      obtain rfl : j = 0 := by omega
      have hx := hr0 0 (Nat.lt_succ_self 0)
      simp only [List.getD_cons_zero] at hx ⊢
      obtain ⟨A, c1, c2, hu, hh⟩ := hx.vs_inv
      obtain ⟨hle, hu2⟩ := hh _ _ _ _ hm
      have hid : Mem.set o (.var vo [.sl id (v + 1) k]) (Mem.set id (.row (v + 1) es sz n f) m) id = .row (v + 1) es sz n f := by rw [set_ne (Ne.symm hne), set_same]
      rw [hu]
      refine .sl A c1 c2 id (v + 1) k (by rw [hid]; exact Nat.le_refl _) (fun e' sz' m' f' hm' => ?_)
      rw [hid] at hm'
      cases hm'
      rw [updL_ne (Ne.symm hne), updL_same]
      exact ⟨hle, by rw [← hu]; exact hu2⟩)
  exact ⟨_, k1, fun q => ((hv q).mono g2 g3).mono k2 k3, fun b hb => (k2 b (g2 b hb).1).1, g3.trans k3⟩

/-- **In front of a call the state may be seen in another way.** -/
theorem CallW.shift {P : Program} {f : Nat} {args : List AV} {mem m' : Mem} {K : AV → Mem → Prop} (hs : Shift (env0 args) mem (env0 args) m') (h : CallW P f args m' K) : CallW P f args mem K := by
  refine ⟨h.1, fun X Y w0 w bl vs hw hsz hv => ?_⟩
  obtain ⟨bl1, g1, g2, g3, g4⟩ := hs X Y w0 w bl (fun j => vs.getD j undef) hw (fun j => by
    by_cases hj : j < args.length
    · exact hv j hj
    · unfold env0
      rw [List.getD_eq_getElem?_getD, List.getElem?_eq_none (by omega)]
      exact .fz (.undef _))
  refine (h.2 X Y w0 w bl1 vs g1 hsz (fun j hj => g2 j)).mono fun e w' ⟨u, r, m2, bl', he, hK, hw', hu, hF, hL⟩ => ?_
  exact ⟨u, r, m2, bl', he, hK, hw', hu, fun b hb => ⟨(hF b (g3 b hb)).1, (hF b (g3 b hb)).2⟩, g4.trans hL⟩
end Go.Ab
