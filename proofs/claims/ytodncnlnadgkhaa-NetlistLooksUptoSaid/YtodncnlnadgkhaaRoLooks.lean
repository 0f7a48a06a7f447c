/- 'masklaw3.NetlistLooks' returns true, and its arguments read behind the call as they did, for every input whose bulk is at most 1048576. No other condition. -/
import Derived.Test.YtodncnlnadgkhaaRoBase
import Derived.Test.YtodncnlnadgkhaaSaLooks
set_option linter.unusedVariables false
set_option linter.unusedSimpArgs false
set_option linter.unusedVariables false
namespace Go.Proofs.Ytodncnlnadgkhaa
open Go.ChangeShapes Go.WideShapes Go.ChangeAt Go.RowKit Go.Ab

set_option maxRecDepth 100000 in
theorem looks_contract (H : Type) (enc : TypeId × Value → H) (W : World) (base : Nat) (args : Array Value) (ds gs : List (DataW H)) (before : List MemPlace)
    (hval : ∀ (j : Nat) t v, Try.f3.params[j]? = some t → args[j]? = some v → Value.okWide Try.prog W .any base t v)
    (hW : DataW.Whole enc Try.prog Try.f3.params.toList Rows.netlistLooksSpec.vars false W args.toList ds gs before) (hk : Rows.uptoSmall H (ds ++ gs) = true) :
    Calls Try.prog 3 args W fun e W' => ∃ v, e = .returned v ∧ Rows.netlistLooksSpec.post enc Try.prog Try.f3 false true false false W args v W' := by
  have hW' := hW
  obtain ⟨p, q, hA0, hV, rfl, hfz, hnd⟩ := hW
  have hA : DataW.TrodAll enc Try.prog W 0 (fun _ => true) true Try.f3.params.toList args.toList ds p := hA0
  rw [Try.params3] at hA hval
  obtain ⟨v0, vs0, d0, ds0, p0, q0, hargs, rfl, rfl, h0, r0⟩ := trodAll_cons hA
  obtain ⟨v1, vs1, d1, ds1, p1, q1, rfl, rfl, rfl, h1, r1⟩ := trodAll_cons r0
  obtain ⟨v2, vs2, d2, ds2, p2, q2, rfl, rfl, rfl, h2, r2⟩ := trodAll_cons r1
  obtain ⟨rfl, rfl, rfl⟩ := trodAll_nil r2
  obtain rfl : args = #[v0, v1, v2] := by cases args; simp_all
  obtain ⟨rfl, rfl⟩ := trodVars_none hV
  have hb := bulk_bound hk
  simp only [List.append_nil, Rows.uptoBulkAll] at hb hW' ⊢
  obtain ⟨n0, hn0⟩ := okWide_int Try.underlying22 (hval 0 22 v0 rfl rfl)
  obtain ⟨s1, l1, c1, hn1⟩ := okWide_slice Try.underlying23 (hval 1 23 v1 rfl rfl)
  obtain ⟨n2, hn2⟩ := okWide_int Try.underlying5 (hval 2 5 v2 rfl rfl)
  obtain ⟨a0, k0, t, e0, t0, t1⟩ := arg_one (meas H) (readsAs_int Try.underlying22) (by rw [hn0]; rfl) h0 (B := 1048576) (by omega) (fun avs ⟨n, h, _⟩ => ⟨_, h⟩)
  obtain ⟨a1, k1, n, f, e1, l1, hf⟩ := arg_one (meas H) (readsAs_slice Try.underlying23 (by decide +kernel) (readsAs_int Try.underlying22)) (by rw [hn1]; rfl) h1 (B := 1048576) (by omega) (fun avs ⟨n, f, h, _⟩ => ⟨_, h⟩)
  obtain ⟨a2, k2, s, e2, s0, s1⟩ := arg_one (meas H) (readsAs_int Try.underlying5) (by rw [hn2]; rfl) h2 (B := 1048576) (by omega) (fun avs ⟨n, h, _⟩ => ⟨_, h⟩)
  cases e0; cases e1; cases e2
  obtain ⟨x, hx⟩ : ∃ x : Nat → Int, ∀ i, i < n → f i = .int .u64 (x i) ∧ U64 (x i) := by
    refine choose_lt (α := Int) (q := fun i z => f i = .int .u64 z ∧ U64 z) fun i hi => ?_
    obtain ⟨a, h3, z, h4, h5, h6⟩ := hf i hi
    subst h4
    exact ⟨z, h3, h5, h6⟩
  refine ((p3 t s n x f ⟨t0, t1⟩ (fun i hi => (hx i hi).2) (fun i hi => (hx i hi).1) l1 s0 s1).calls (vs := #[v0, v1, v2]) rfl (fun j hj => ?_)).mono fun e W' ⟨he, hbl⟩ => ?_
  · have hj3 : j = 0 ∨ j = 1 ∨ j = 2 := by simp at hj; omega
    rcases hj3 with h | h | h <;> subst h <;> assumption
  · subst he
    have hlt : ∀ y ∈ p0 ++ (p1 ++ p2), y.block < W.heap.size := fun y hy => by simpa using hW'.lt y hy
    have st : ∀ {t : Nat} {v : Value} {d : DataW H} {ps : List MemPlace} (sp : Nat → Bool) (hr : Try.prog.readableRec t = true) (hrow : t < Try.prog.types.size) (h : DataW.Trod enc Try.prog W 0 (fun _ => true) true t v d ps) (hin : ∀ y ∈ ps, y ∈ p0 ++ (p1 ++ p2)) (hsp : ∀ y ∈ p0 ++ (p1 ++ p2), sp y.block = true), DataW.Trod enc Try.prog W' 0 sp true t v d ps :=
      fun sp hr hrow h hin hsp => WideElems.Trod_stays laid hr hrow h (fun y hy => hbl.same (hlt y (hin y hy))) (fun y hy => hsp y (hin y hy))
    exact ⟨_, rfl, post_below (pa := p0 ++ (p1 ++ (p2 ++ []))) hW' hbl rfl (fun _ _ _ => trodAll_cons_mk (shut_bool Try.underlying4 _) trodAll_mk0)
      (fun sp hsp => trodAll_cons_mk (st sp (by kernel_rfl) (of_decide_eq_true (by kernel_rfl)) h0 (fun y hy => by simp [hy]) hsp) (trodAll_cons_mk (st sp (by kernel_rfl) (of_decide_eq_true (by kernel_rfl)) h1 (fun y hy => by simp [hy]) hsp) (trodAll_cons_mk (st sp (by kernel_rfl) (of_decide_eq_true (by kernel_rfl)) h2 (fun y hy => by simp [hy]) hsp) trodAll_mk0)))
      rfl (by simp) (ok_one (by kernel_rfl) rfl (okWide_bool_mk Try.underlying4 _))⟩

set_option maxRecDepth 100000 in
theorem looks_lifted (os : Os) (started : os.Started) (H : Type) (enc : TypeId × Value → H) (F : Stop.Interp) :
    ReturnsInHanded {} Try.checked os 3 .any ((Rows.OpenSpec.upto Rows.netlistLooksSpec).pre6 enc Try.prog Try.f3 Rows.netlistLooksUptoRow.domain false) (((Rows.OpenSpec.upto Rows.netlistLooksSpec).at F).post enc Try.prog Try.f3 false true false false) := by
  refine returnsInHanded_of_cond (C := Try.checked) (s := Rows.OpenSpec.upto Rows.netlistLooksSpec) (k := Rows.uptoSmall) rfl own started (by kernel_rfl) Try.func3
    (OpenSpec.witness (enc := enc) (C := Try.checked) (s := Rows.OpenSpec.upto Rows.netlistLooksSpec) (k := Rows.uptoSmall) rfl false ⟨#[], #[.int .u64 0, .slice none 0 0, .int .u8 0], []⟩ 8 (by kernel_rfl) (by kernel_rfl) (by kernel_rfl)
      (x := ([.lit (.int .u64 0), .nil, .lit (.int .u8 0)], [], [])) (by kernel_rfl) rfl (by kernel_rfl)) ?_
  intro W base args ds gs before hval hW _ hk _
  exact looks_contract H enc W base args ds gs before hval hW hk

theorem looks_holds : Rows.NetlistLooksUptoSaid :=
  OpenClaim.holds_of_cond 3 Try.f3 rfl rfl rfl rfl rfl rfl rfl ⟨rfl, rfl, rfl, rfl, rfl⟩ rfl rfl rfl rfl rfl (by kernel_rfl) Try.func3 (by kernel_rfl)
    (of_decide_eq_true (by kernel_rfl)) (by unfold Func.isWrapper; first | (rw [if_pos (by decide +kernel)]; kernel_rfl) | (rw [if_neg (by decide +kernel)]; exact ⟨rfl, rfl⟩))
    (fun os started H enc _ F => looks_lifted os started H enc F)
#print axioms looks_holds
end Go.Proofs.Ytodncnlnadgkhaa
