/- 'masklaw3.NetlistWiths' returns true, and its arguments read behind the call as they did, for every input whose bulk is at most 1048576. No other condition. -/
import Derived.Test.YtodncnlnadgkhaaRoGraA
import Derived.Test.YtodncnlnadgkhaaSaWithL
set_option linter.unusedVariables false
set_option linter.unusedSimpArgs false
namespace Go.Proofs.Ytodncnlnadgkhaa
open Go.ChangeShapes Go.WideShapes Go.ChangeAt Go.RowKit Go.Ab

set_option maxRecDepth 100000 in
theorem withs_contract (H : Type) (enc : TypeId × Value → H) (W : World) (base : Nat) (args : Array Value) (ds gs : List (DataW H)) (before : List MemPlace)
    (hval : ∀ (j : Nat) t v, Try.f13.params[j]? = some t → args[j]? = some v → Value.okWide Try.prog W .any base t v)
    (hW : DataW.Whole enc Try.prog Try.f13.params.toList Rows.netlistWithsSpec.vars false W args.toList ds gs before) (hk : Rows.uptoSmall H (ds ++ gs) = true) :
    Calls Try.prog 13 args W fun e W' => ∃ v, e = .returned v ∧ Rows.netlistWithsSpec.post enc Try.prog Try.f13 false true false false W args v W' := by
  have hW' := hW
  obtain ⟨p, q, hA0, hV, rfl, hfz, hnd⟩ := hW
  have hA : DataW.TrodAll enc Try.prog W 0 (fun _ => true) true Try.f13.params.toList args.toList ds p := hA0
  rw [Try.params13] at hA hval
  obtain ⟨v0, vs0, d0, ds0, p0, q0, hargs, rfl, rfl, h0, r0⟩ := trodAll_cons hA
  obtain ⟨v1, vs1, d1, ds1, p1, q1, rfl, rfl, rfl, h1, r1⟩ := trodAll_cons r0
  obtain ⟨v2, vs2, d2, ds2, p2, q2, rfl, rfl, rfl, h2, r2⟩ := trodAll_cons r1
  obtain ⟨rfl, rfl, rfl⟩ := trodAll_nil r2
  obtain rfl : args = #[v0, v1, v2] := by cases args; simp_all
  obtain ⟨rfl, rfl⟩ := trodVars_none hV
  have hb := bulk_bound hk
  simp only [List.append_nil, Rows.uptoBulkAll] at hb hW' ⊢
  obtain ⟨c0, hn0, _⟩ := okWide_struct Try.underlying95 (hval 0 95 v0 rfl rfl)
  subst hn0
  obtain ⟨a0, k0, hp0⟩ := arg_agg (meas H) (rdGra) h0 (B := 1048576) (by omega)
  obtain ⟨s1, l1, c1, hn1⟩ := okWide_slice Try.underlying93 (hval 1 93 v1 rfl rfl)
  obtain ⟨a1, k1, hp1⟩ := arg_one (meas H) (rdLits) (by rw [hn1]; rfl) h1 (B := 1048576) (by omega) (fun avs ⟨n, f, h, _⟩ => ⟨_, h⟩)
  obtain ⟨s2, l2, c2, hn2⟩ := okWide_slice Try.underlying93 (hval 2 93 v2 rfl rfl)
  obtain ⟨a2, k2, hp2⟩ := arg_one (meas H) (rdLits) (by rw [hn2]; rfl) h2 (B := 1048576) (by omega) (fun avs ⟨n, f, h, _⟩ => ⟨_, h⟩)
  obtain ⟨N, hN, ok⟩ := open_gra (Nat.le_refl _) hp0
  obtain ⟨n1, f1, x1, e1, hb1, hx1⟩ := open_lits hp1
  obtain ⟨n2, f2, x2, e2, hb2, hx2⟩ := open_lits hp2
  cases e1; cases e2
  refine ((p13 hN ok n1 n2 x1 x2 f1 f2 (fun i hi => (hx1 i hi).1) (fun i hi => (hx2 i hi).1) hb1 hb2 (fun i hi => (hx1 i hi).2) (fun i hi => (hx2 i hi).2)).calls (vs := #[.agg c0, v1, v2]) rfl (fun j hj => ?_)).mono fun e W' ⟨he, hbl⟩ => ?_
  · have hjn : j = 0 ∨ j = 1 ∨ j = 2 := by simp at hj; omega
    rcases hjn with h | h | h <;> subst h <;> assumption
  · subst he
    have hlt : ∀ y ∈ p0 ++ (p1 ++ (p2)), y.block < W.heap.size := fun y hy => by simpa using hW'.lt y (by simpa using hy)
    have st : ∀ {t : Nat} {v : Value} {d : DataW H} {ps : List MemPlace} (sp : Nat → Bool) (hr : Try.prog.readableRec t = true) (hrow : t < Try.prog.types.size) (h : DataW.Trod enc Try.prog W 0 (fun _ => true) true t v d ps) (hin : ∀ y ∈ ps, y ∈ p0 ++ (p1 ++ (p2))) (hsp : ∀ y ∈ p0 ++ (p1 ++ (p2)), sp y.block = true), DataW.Trod enc Try.prog W' 0 sp true t v d ps :=
      fun sp hr hrow h hin hsp => WideElems.Trod_stays laid hr hrow h (fun y hy => hbl.same (hlt y (hin y hy))) (fun y hy => hsp y (hin y hy))
    exact ⟨_, rfl, post_below (pa := p0 ++ (p1 ++ (p2 ++ []))) hW' hbl rfl (fun _ _ _ => trodAll_cons_mk (shut_bool Try.underlying4 _) trodAll_mk0)
      (fun sp hsp => trodAll_cons_mk (st sp (by kernel_rfl) (of_decide_eq_true (by kernel_rfl)) h0 (fun y hy => by simp [hy]) hsp) (trodAll_cons_mk (st sp (by kernel_rfl) (of_decide_eq_true (by kernel_rfl)) h1 (fun y hy => by simp [hy]) hsp) (trodAll_cons_mk (st sp (by kernel_rfl) (of_decide_eq_true (by kernel_rfl)) h2 (fun y hy => by simp [hy]) hsp) trodAll_mk0)))
      rfl (by simp) (ok_one (by kernel_rfl) rfl (okWide_bool_mk Try.underlying4 _))⟩

set_option maxRecDepth 100000 in
theorem withs_lifted (os : Os) (started : os.Started) (H : Type) (enc : TypeId × Value → H) (F : Stop.Interp) :
    ReturnsInHanded {} Try.checked os 13 .any ((Rows.OpenSpec.upto Rows.netlistWithsSpec).pre6 enc Try.prog Try.f13 Rows.netlistWithsUptoRow.domain false) (((Rows.OpenSpec.upto Rows.netlistWithsSpec).at F).post enc Try.prog Try.f13 false true false false) := by
  refine returnsInHanded_of_cond (C := Try.checked) (s := Rows.OpenSpec.upto Rows.netlistWithsSpec) (k := Rows.uptoSmall) rfl own started (by kernel_rfl) Try.func13
    (OpenSpec.witness (enc := enc) (C := Try.checked) (s := Rows.OpenSpec.upto Rows.netlistWithsSpec) (k := Rows.uptoSmall) rfl false ⟨#[], #[.agg #[.slice none 0 0, .slice none 0 0, .slice none 0 0, .slice none 0 0, .slice none 0 0], .slice none 0 0, .slice none 0 0], []⟩ 8 (by kernel_rfl) (by kernel_rfl) (by kernel_rfl)
      (x := ([.agg [.nil, .nil, .nil, .nil, .nil], .nil, .nil], [], [])) (by kernel_rfl) rfl (by kernel_rfl)) ?_
  intro W base args ds gs before hval hW _ hk _
  exact withs_contract H enc W base args ds gs before hval hW hk

theorem withs_holds : Rows.NetlistWithsUptoSaid :=
  OpenClaim.holds_of_cond 13 Try.f13 rfl rfl rfl rfl rfl rfl rfl ⟨rfl, rfl, rfl, rfl, rfl⟩ rfl rfl rfl rfl rfl (by kernel_rfl) Try.func13 (by kernel_rfl)
    (of_decide_eq_true (by kernel_rfl)) (by unfold Func.isWrapper; first | (rw [if_pos (by decide +kernel)]; kernel_rfl) | (rw [if_neg (by decide +kernel)]; exact ⟨rfl, rfl⟩))
    (fun os started H enc _ F => withs_lifted os started H enc F)
#print axioms withs_holds
end Go.Proofs.Ytodncnlnadgkhaa
