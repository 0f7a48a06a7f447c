/- 'masklaw3.NetlistGraphs' returns true, and its arguments read behind the call as they did, for every input whose bulk is at most 1048576. No other condition. -/
import Derived.Test.YtodncnlnadgkhaaRoNet
import Derived.Test.YtodncnlnadgkhaaSaSmG
set_option linter.unusedVariables false
set_option linter.unusedSimpArgs false
namespace Go.Proofs.Ytodncnlnadgkhaa
open Go.ChangeShapes Go.WideShapes Go.ChangeAt Go.RowKit Go.Ab

set_option maxRecDepth 100000 in
theorem ngraphs_contract (H : Type) (enc : TypeId × Value → H) (W : World) (base : Nat) (args : Array Value) (ds gs : List (DataW H)) (before : List MemPlace)
    (hval : ∀ (j : Nat) t v, Try.f12.params[j]? = some t → args[j]? = some v → Value.okWide Try.prog W .any base t v)
    (hW : DataW.Whole enc Try.prog Try.f12.params.toList Rows.netlistGraphsSpec.vars false W args.toList ds gs before) (hk : Rows.uptoSmall H (ds ++ gs) = true) :
    Calls Try.prog 12 args W fun e W' => ∃ v, e = .returned v ∧ Rows.netlistGraphsSpec.post enc Try.prog Try.f12 false true false false W args v W' := by
  have hW' := hW
  obtain ⟨p, q, hA0, hV, rfl, hfz, hnd⟩ := hW
  have hA : DataW.TrodAll enc Try.prog W 0 (fun _ => true) true Try.f12.params.toList args.toList ds p := hA0
  rw [Try.params12] at hA hval
  obtain ⟨v0, vs0, d0, ds0, p0, q0, hargs, rfl, rfl, h0, r0⟩ := trodAll_cons hA
  obtain ⟨v1, vs1, d1, ds1, p1, q1, rfl, rfl, rfl, h1, r1⟩ := trodAll_cons r0
  obtain ⟨rfl, rfl, rfl⟩ := trodAll_nil r1
  obtain rfl : args = #[v0, v1] := by cases args; simp_all
  obtain ⟨rfl, rfl⟩ := trodVars_none hV
  have hb := bulk_bound hk
  simp only [List.append_nil, Rows.uptoBulkAll] at hb hW' ⊢
  obtain ⟨c0, hn0, _⟩ := okWide_struct Try.underlying34 (hval 0 34 v0 rfl rfl)
  subst hn0
  obtain ⟨a0, k0, hp0⟩ := arg_agg (meas H) (rdNet) h0 (B := 1048576) (by omega)
  obtain ⟨n1, hn1⟩ := okWide_int Try.underlying22 (hval 1 22 v1 rfl rfl)
  obtain ⟨a1, k1, hp1⟩ := arg_one (meas H) (readsAs_int Try.underlying22) (by rw [hn1]; rfl) h1 (B := 1048576) (by omega) (fun avs ⟨n, h, _⟩ => ⟨_, h⟩)
  obtain ⟨N, hN, ok⟩ := open_net (Nat.le_refl _) hp0
  obtain ⟨w1, e1, l1⟩ := hp1
  cases e1
  refine ((Go.Ab.p12 hN ok w1).calls (vs := #[.agg c0, v1]) rfl (fun j hj => ?_)).mono fun e W' ⟨he, hbl⟩ => ?_
  · have hjn : j = 0 ∨ j = 1 := by simp at hj; omega
    rcases hjn with h | h <;> subst h <;> assumption
  · subst he
    have hlt : ∀ y ∈ p0 ++ (p1), y.block < W.heap.size := fun y hy => by simpa using hW'.lt y (by simpa using hy)
    have st : ∀ {t : Nat} {v : Value} {d : DataW H} {ps : List MemPlace} (sp : Nat → Bool) (hr : Try.prog.readableRec t = true) (hrow : t < Try.prog.types.size) (h : DataW.Trod enc Try.prog W 0 (fun _ => true) true t v d ps) (hin : ∀ y ∈ ps, y ∈ p0 ++ (p1)) (hsp : ∀ y ∈ p0 ++ (p1), sp y.block = true), DataW.Trod enc Try.prog W' 0 sp true t v d ps :=
      fun sp hr hrow h hin hsp => WideElems.Trod_stays laid hr hrow h (fun y hy => hbl.same (hlt y (hin y hy))) (fun y hy => hsp y (hin y hy))
    exact ⟨_, rfl, post_below (pa := p0 ++ (p1 ++ [])) hW' hbl rfl (fun _ _ _ => trodAll_cons_mk (shut_bool Try.underlying4 _) trodAll_mk0)
      (fun sp hsp => trodAll_cons_mk (st sp (by kernel_rfl) (of_decide_eq_true (by kernel_rfl)) h0 (fun y hy => by simp [hy]) hsp) (trodAll_cons_mk (st sp (by kernel_rfl) (of_decide_eq_true (by kernel_rfl)) h1 (fun y hy => by simp [hy]) hsp) trodAll_mk0))
      rfl (by simp) (ok_one (by kernel_rfl) rfl (okWide_bool_mk Try.underlying4 _))⟩

set_option maxRecDepth 100000 in
theorem ngraphs_lifted (os : Os) (started : os.Started) (H : Type) (enc : TypeId × Value → H) (F : Stop.Interp) :
    ReturnsInHanded {} Try.checked os 12 .any ((Rows.OpenSpec.upto Rows.netlistGraphsSpec).pre6 enc Try.prog Try.f12 Rows.netlistGraphsUptoRow.domain false) (((Rows.OpenSpec.upto Rows.netlistGraphsSpec).at F).post enc Try.prog Try.f12 false true false false) := by
  refine returnsInHanded_of_cond (C := Try.checked) (s := Rows.OpenSpec.upto Rows.netlistGraphsSpec) (k := Rows.uptoSmall) rfl own started (by kernel_rfl) Try.func12
    (OpenSpec.witness (enc := enc) (C := Try.checked) (s := Rows.OpenSpec.upto Rows.netlistGraphsSpec) (k := Rows.uptoSmall) rfl false ⟨#[], #[.agg #[.slice none 0 0, .slice none 0 0, .slice none 0 0, .slice none 0 0, .slice none 0 0], .int .u64 0], []⟩ 8 (by kernel_rfl) (by kernel_rfl) (by kernel_rfl)
      (x := ([.agg [.nil, .nil, .nil, .nil, .nil], .lit (.int .u64 0)], [], [])) (by kernel_rfl) rfl (by kernel_rfl)) ?_
  intro W base args ds gs before hval hW _ hk _
  exact ngraphs_contract H enc W base args ds gs before hval hW hk

theorem ngraphs_holds : Rows.NetlistGraphsUptoSaid :=
  OpenClaim.holds_of_cond 12 Try.f12 rfl rfl rfl rfl rfl rfl rfl ⟨rfl, rfl, rfl, rfl, rfl⟩ rfl rfl rfl rfl rfl (by kernel_rfl) Try.func12 (by kernel_rfl)
    (of_decide_eq_true (by kernel_rfl)) (by unfold Func.isWrapper; first | (rw [if_pos (by decide +kernel)]; kernel_rfl) | (rw [if_neg (by decide +kernel)]; exact ⟨rfl, rfl⟩))
    (fun os started H enc _ F => ngraphs_lifted os started H enc F)
#print axioms ngraphs_holds
end Go.Proofs.Ytodncnlnadgkhaa
