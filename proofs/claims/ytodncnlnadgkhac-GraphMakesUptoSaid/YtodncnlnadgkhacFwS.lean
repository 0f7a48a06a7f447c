/- Rows that are not turned any more: they are read only from here on. -/
import Derived.Test.YtodncnlnadgkhacFwV
import Derived.Test.YtodncnlnadgkhacFwW
set_option linter.unusedSimpArgs false
set_option linter.unusedVariables false
namespace Go.Ab
open Go
/-- An own row that a cell of a variable stands for. -/
theorem Shift.frzC {e : Env} {m : Mem} {id o v vo es sz n k c : Nat} {f : Nat → AV} {cs : List AV} (hm : m id = .row v es sz n f) (ho : m o = .var vo cs) (hc : c < cs.length) (hg : cs.getD c .undef = .sl id v k) : Shift e m e (Mem.set o (.var vo (cs.set c (.fs k f))) (Mem.set id (.dead (v + 1)) m)) := fun X Y w0 w bl t hw hv => by
  have hne : o ≠ id := fun h => by subst h; rw [ho] at hm; cases hm
  have hoo := hw.obj o
  rw [ho] at hoo
  obtain ⟨b0, c0, arr, et, hl0, hh0, hs0, hr0⟩ := hoo
  have hx := hr0 c hc
  rw [hg] at hx
  obtain ⟨bl1, g1, g2, g3, g4⟩ := frz_one hw hm hx
  have ho1 : Mem.set id (.dead (v + 1)) m o = .var vo cs := by rw [set_ne hne]; exact ho
  have hbl : bl1 o = bl o := ((g3 o).2 (by rw [ho1, ho])).2
  obtain ⟨k1, k2, k3⟩ := WS.upd (w' := w) g1 o (.var vo (cs.set c (.fs k f))) (bl1 o) (by rw [ho1]; exact Nat.le_refl _) (fun _ => ⟨by rw [ho1]; exact List.length_set, rfl⟩) rfl rfl rfl (Nat.le_refl _) (fun _ _ _ => rfl)
    (fun b c _ hb => ⟨.inr ⟨by rw [ho1]; rfl, c, hb⟩, (g1.own o b c (by rw [ho1]; rfl) hb).2.2⟩)
    (fun hF hk => by
      refine ⟨b0, c0, arr, et, by rw [hbl]; exact hl0, hh0, by rw [List.length_set]; exact hs0, fun j hj => ?_⟩
      rw [List.length_set] at hj
      by_cases e : j = c
      · subst e
        rw [getD_setE hc]
        exact .fz (g4.mono hF)
      · rw [getD_setN (Ne.symm e)]
        exact ((hr0 j hj).mono (fun b hb => ⟨g2 b hb, rfl⟩) g3).mono hF hk)
  exact ⟨_, k1, fun q => ((hv q).mono (fun b hb => ⟨g2 b hb, rfl⟩) g3).mono k2 k3, fun b hb => (k2 b (g2 b hb)).1, g3.trans k3⟩
/-- A nil slice in a cell of a variable is a slice of length 0 that is read only. -/
theorem Shift.capC {e : Env} {m : Mem} {o vo c : Nat} {cs : List AV} (f : Nat → AV) (ho : m o = .var vo cs) (hc : c < cs.length) (hg : cs.getD c .undef = .cap0) : Shift e m e (Mem.set o (.var vo (cs.set c (.fs 0 f))) m) := fun X Y w0 w bl t hw hv => by
  have hoo := hw.obj o
  rw [ho] at hoo
  obtain ⟨b0, c0, arr, et, hl0, hh0, hs0, hr0⟩ := hoo
  have hx := hr0 c hc
  rw [hg] at hx
  have hu := hx.cap0_inv
  obtain ⟨k1, k2, k3⟩ := WS.upd (w' := w) hw o (.var vo (cs.set c (.fs 0 f))) (bl o) (by rw [ho]; exact Nat.le_refl _) (fun _ => ⟨by rw [ho]; exact List.length_set, rfl⟩) rfl rfl rfl (Nat.le_refl _) (fun _ _ _ => rfl)
    (fun b c _ hb => ⟨.inr ⟨by rw [ho]; rfl, c, hb⟩, (hw.own o b c (by rw [ho]; rfl) hb).2.2⟩)
    (fun hF hk => by
      refine ⟨b0, c0, arr, et, hl0, hh0, by rw [List.length_set]; exact hs0, fun j hj => ?_⟩
      rw [List.length_set] at hj
      by_cases e : j = c
      · subst e
        rw [getD_setE hc, hu]
        exact .fz (.fs0 _ _ _)
      · rw [getD_setN (Ne.symm e)]
        exact (hr0 j hj).mono hF hk)
  exact ⟨_, k1, fun q => (hv q).mono k2 k3, fun b hb => (k2 b hb).1, k3⟩
/-- Another way to see what a call leaves. -/
def RSh (r : AV) (m : Mem) (r' : AV) (m' : Mem) : Prop := ∀ (X Y : Nat → Prop) (w0 w : World) (bl : Nat → Loc) (u : Value), WS X Y w0 w bl m → VV w (Fr X w bl m) bl m u r →
  ∃ bl', WS X Y w0 w bl' m' ∧ VV w (Fr X w bl' m') bl' m' u r' ∧ (∀ b, Fr X w bl m b → Fr X w bl' m' b) ∧ Later m m' bl bl'
theorem RSh.refl (r : AV) (m : Mem) : RSh r m r m := fun _ _ _ _ bl _ h1 h2 => ⟨bl, h1, h2, fun _ h => h, Later.refl _ _⟩
theorem CallW.shR {P : Program} {g : Nat} {args : List AV} {mem : Mem} {K : AV → Mem → Prop} (h : CallW P g args mem fun r m => ∃ r' m', RSh r m r' m' ∧ K r' m') : CallW P g args mem K :=
  ⟨h.1, fun X Y w0 w bl vs h1 h2 h3 => (h.2 X Y w0 w bl vs h1 h2 h3).mono fun e w' ⟨u, r, m, b, he, ⟨r', m', hs, hK⟩, hw', hu, hF, hL⟩ => by
    obtain ⟨b', q1, q2, q3, q4⟩ := hs X Y w0 w' b u hw' hu
    exact ⟨u, r', m', b', he, hK, q1, q2, fun x hx => ⟨q3 x (hF x hx).1, (hF x hx).2⟩, hL.trans q4⟩⟩
theorem VV.tup_inv' {w : World} {F : Nat → Prop} {bl : Nat → Loc} {mem : Mem} {u : Value} {cs : List AV} (h : VV w F bl mem u (.tup cs)) : ∃ vs : Array Value, u = .tuple vs ∧ vs.size = cs.length ∧ ∀ j, j < cs.length → VV w F bl mem (vs.getD j undef) (cs.getD j .undef) := by
  cases h with
  | fz g => cases g with | tup vs cs hl hr => exact ⟨vs, rfl, hl, fun j hj => .fz (hr j hj)⟩
  | tup vs cs hl hr => exact ⟨vs, rfl, hl, hr⟩
/-- An own row in a struct that is the first of two results. -/
theorem RSh.frzT {m : Mem} {id v es sz n k c : Nat} {f : Nat → AV} {cs : List AV} {q : AV} (hm : m id = .row v es sz n f) (hc : c < cs.length) (hg : cs.getD c .undef = .sl id v k) : RSh (.tup [.agg cs, q]) m (.tup [.agg (cs.set c (.fs k f)), q]) (Mem.set id (.dead (v + 1)) m) := fun X Y w0 w bl u hw hv => by
  obtain ⟨vs, hu, hs, hr⟩ := hv.tup_inv'
  obtain ⟨us, hu1, hs1, hr1⟩ := (hr 0 (by simp)).agg_inv
  have hx := hr1 c hc
  rw [hg] at hx
  obtain ⟨bl1, g1, g2, g3, g4⟩ := frz_one hw hm hx
  have up : ∀ {u : Value} {a : AV}, VV w (Fr X w bl m) bl m u a → VV w (Fr X w bl1 (Mem.set id (.dead (v + 1)) m)) bl1 (Mem.set id (.dead (v + 1)) m) u a := fun h => h.mono (fun b hb => ⟨g2 b hb, rfl⟩) g3
  refine ⟨bl1, g1, ?_, g2, g3⟩
  rw [hu]
  refine .tup _ _ (by simpa using hs) fun j hj => ?_
  rcases (show j = 0 ∨ j = 1 by simp at hj; omega) with rfl | rfl
  · rw [hu1]
    refine .agg _ _ (by rw [List.length_set]; exact hs1) fun i hi => ?_
    rw [List.length_set] at hi
    by_cases e : i = c
    · subst e
      rw [getD_setE hc]
      exact .fz g4
    · rw [getD_setN (Ne.symm e)]
      exact up (hr1 i hi)
  · exact up (hr 1 (by simp))
/-- A nil slice in a struct that is the first of two results. -/
theorem RSh.capT {m : Mem} {c : Nat} (f : Nat → AV) {cs : List AV} {q : AV} (hc : c < cs.length) (hg : cs.getD c .undef = .cap0) : RSh (.tup [.agg cs, q]) m (.tup [.agg (cs.set c (.fs 0 f)), q]) m := fun X Y w0 w bl u hw hv => by
  obtain ⟨vs, hu, hs, hr⟩ := hv.tup_inv'
  obtain ⟨us, hu1, hs1, hr1⟩ := (hr 0 (by simp)).agg_inv
  have hx := hr1 c hc
  rw [hg] at hx
  refine ⟨bl, hw, ?_, fun _ h => h, Later.refl _ _⟩
  rw [hu]
  refine .tup _ _ (by simpa using hs) fun j hj => ?_
  rcases (show j = 0 ∨ j = 1 by simp at hj; omega) with rfl | rfl
  · rw [hu1]
    refine .agg _ _ (by rw [List.length_set]; exact hs1) fun i hi => ?_
    rw [List.length_set] at hi
    by_cases e : i = c
    · subst e
      rw [getD_setE hc, hx.cap0_inv]
      exact .fz (.fs0 _ _ _)
    · rw [getD_setN (Ne.symm e)]
      exact hr1 i hi
  · exact hr 1 (by simp)
end Go.Ab
