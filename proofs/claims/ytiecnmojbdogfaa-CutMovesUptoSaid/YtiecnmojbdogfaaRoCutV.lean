/- 'masklaw3.CutMoves' returns true, and its arguments read behind the call as they did, for every input whose bulk is at most 1048576. No other condition. -/
import Derived.Test.YtiecnmojbdogfaaRoBase
import Derived.Test.YtiecnmojbdogfaaSaCutV
set_option linter.unusedVariables false
set_option linter.unusedSimpArgs false
namespace Go.Proofs.Ytiecnmojbdogfaa
open Go.ChangeShapes Go.WideShapes Go.ChangeAt Go.RowKit Go.Ab

set_option maxRecDepth 100000 in
theorem cutmov_contract (H : Type) (enc : TypeId × Value → H) (W : World) (base : Nat) (args : Array Value) (ds gs : List (DataW H)) (before : List MemPlace)
    (hval : ∀ (j : Nat) t v, Try.f4.params[j]? = some t → args[j]? = some v → Value.okWide Try.prog W .any base t v)
    (hW : DataW.Whole enc Try.prog Try.f4.params.toList Rows.cutMovesSpec.vars false W args.toList ds gs before) (hk : Rows.uptoSmall H (ds ++ gs) = true) :
    Calls Try.prog 4 args W fun e W' => ∃ v, e = .returned v ∧ Rows.cutMovesSpec.post enc Try.prog Try.f4 false true false false W args v W' := by
  have hW' := hW
  obtain ⟨p, q, hA0, hV, rfl, hfz, hnd⟩ := hW
  have hA : DataW.TrodAll enc Try.prog W 0 (fun _ => true) true Try.f4.params.toList args.toList ds p := hA0
  rw [Try.params4] at hA hval
  obtain ⟨v0, vs0, d0, ds0, p0, q0, hargs, rfl, rfl, h0, r0⟩ := trodAll_cons hA
  obtain ⟨v1, vs1, d1, ds1, p1, q1, rfl, rfl, rfl, h1, r1⟩ := trodAll_cons r0
  obtain ⟨v2, vs2, d2, ds2, p2, q2, rfl, rfl, rfl, h2, r2⟩ := trodAll_cons r1
  obtain ⟨v3, vs3, d3, ds3, p3, q3, rfl, rfl, rfl, h3, r3⟩ := trodAll_cons r2
  obtain ⟨rfl, rfl, rfl⟩ := trodAll_nil r3
  obtain rfl : args = #[v0, v1, v2, v3] := by cases args; simp_all
  obtain ⟨rfl, rfl⟩ := trodVars_none hV
  have hb := bulk_bound hk
  simp only [List.append_nil, Rows.uptoBulkAll] at hb hW' ⊢
  obtain ⟨n0, hn0⟩ := okWide_int Try.underlying22 (hval 0 22 v0 rfl rfl)
  obtain ⟨a0, k0, hp0⟩ := arg_one (meas H) (readsAs_int Try.underlying22) (by rw [hn0]; rfl) h0 (B := 1048576) (by omega) (fun avs ⟨n, h, _⟩ => ⟨_, h⟩)
  obtain ⟨s1, l1, c1, hn1⟩ := okWide_slice Try.underlying30 (hval 1 30 v1 rfl rfl)
  obtain ⟨a1, k1, hp1⟩ := arg_one (meas H) (readsAs_slice Try.underlying30 (by decide +kernel) (readsAs_int Try.underlying3)) (by rw [hn1]; rfl) h1 (B := 1048576) (by omega) (fun avs ⟨n, f, h, _⟩ => ⟨_, h⟩)
  obtain ⟨n2, hn2⟩ := okWide_int Try.underlying3 (hval 2 3 v2 rfl rfl)
  obtain ⟨a2, k2, hp2⟩ := arg_one (meas H) (readsAs_int Try.underlying3) (by rw [hn2]; rfl) h2 (B := 1048576) (by omega) (fun avs ⟨n, h, _⟩ => ⟨_, h⟩)
  obtain ⟨n3, hn3⟩ := okWide_int Try.underlying3 (hval 3 3 v3 rfl rfl)
  obtain ⟨a3, k3, hp3⟩ := arg_one (meas H) (readsAs_int Try.underlying3) (by rw [hn3]; rfl) h3 (B := 1048576) (by omega) (fun avs ⟨n, h, _⟩ => ⟨_, h⟩)
  obtain ⟨w0, e0, l0⟩ := hp0
  cases e0
  obtain ⟨n9, f9, e9, l9, k9⟩ := hp1
  cases e9
  obtain ⟨w2, e2, l2⟩ := hp2
  cases e2
  obtain ⟨w3, e3, l3⟩ := hp3
  cases e3
  refine ((Go.Ab.p4 w0 w2 w3 n9 (fun i => match f9 i with | .int _ z => z | _ => 0) f9 l0 (fun i hi => by obtain ⟨a, h1, s, rfl, h2⟩ := k9 i hi; rw [h1]; rfl) l9).calls (vs := #[v0, v1, v2, v3]) rfl (fun j hj => ?_)).mono fun e W' ⟨he, hbl⟩ => ?_
  · have hjn : j = 0 ∨ j = 1 ∨ j = 2 ∨ j = 3 := by simp at hj; omega
    rcases hjn with h | h | h | h <;> subst h <;> assumption
  · subst he
    have hlt : ∀ y ∈ p0 ++ (p1 ++ (p2 ++ (p3))), y.block < W.heap.size := fun y hy => by simpa using hW'.lt y (by simpa using hy)
    have st : ∀ {t : Nat} {v : Value} {d : DataW H} {ps : List MemPlace} (sp : Nat → Bool) (hr : Try.prog.readableRec t = true) (hrow : t < Try.prog.types.size) (h : DataW.Trod enc Try.prog W 0 (fun _ => true) true t v d ps) (hin : ∀ y ∈ ps, y ∈ p0 ++ (p1 ++ (p2 ++ (p3)))) (hsp : ∀ y ∈ p0 ++ (p1 ++ (p2 ++ (p3))), sp y.block = true), DataW.Trod enc Try.prog W' 0 sp true t v d ps :=
      fun sp hr hrow h hin hsp => WideElems.Trod_stays laid hr hrow h (fun y hy => hbl.same (hlt y (hin y hy))) (fun y hy => hsp y (hin y hy))
    exact ⟨_, rfl, post_below (pa := p0 ++ (p1 ++ (p2 ++ (p3 ++ [])))) hW' hbl rfl (fun _ _ _ => trodAll_cons_mk (shut_bool Try.underlying4 _) trodAll_mk0)
      (fun sp hsp => trodAll_cons_mk (st sp (by kernel_rfl) (of_decide_eq_true (by kernel_rfl)) h0 (fun y hy => by simp [hy]) hsp) (trodAll_cons_mk (st sp (by kernel_rfl) (of_decide_eq_true (by kernel_rfl)) h1 (fun y hy => by simp [hy]) hsp) (trodAll_cons_mk (st sp (by kernel_rfl) (of_decide_eq_true (by kernel_rfl)) h2 (fun y hy => by simp [hy]) hsp) (trodAll_cons_mk (st sp (by kernel_rfl) (of_decide_eq_true (by kernel_rfl)) h3 (fun y hy => by simp [hy]) hsp) trodAll_mk0))))
      rfl (by simp) (ok_one (by kernel_rfl) rfl (okWide_bool_mk Try.underlying4 _))⟩

set_option maxRecDepth 100000 in
theorem cutmov_lifted (os : Os) (started : os.Started) (H : Type) (enc : TypeId × Value → H) (F : Stop.Interp) :
    ReturnsInHanded {} Try.checked os 4 .any ((Rows.OpenSpec.upto Rows.cutMovesSpec).pre6 enc Try.prog Try.f4 Rows.cutMovesUptoRow.domain false) (((Rows.OpenSpec.upto Rows.cutMovesSpec).at F).post enc Try.prog Try.f4 false true false false) := by
  refine returnsInHanded_of_cond (C := Try.checked) (s := Rows.OpenSpec.upto Rows.cutMovesSpec) (k := Rows.uptoSmall) rfl own started (by kernel_rfl) Try.func4
    (OpenSpec.witness (enc := enc) (C := Try.checked) (s := Rows.OpenSpec.upto Rows.cutMovesSpec) (k := Rows.uptoSmall) rfl false ⟨#[], #[.int .u64 0, .slice none 0 0, .int .i64 0, .int .i64 0], []⟩ 8 (by kernel_rfl) (by kernel_rfl) (by kernel_rfl)
      (x := ([.lit (.int .u64 0), .nil, .lit (.int .i64 0), .lit (.int .i64 0)], [], [])) (by kernel_rfl) rfl (by kernel_rfl)) ?_
  intro W base args ds gs before hval hW _ hk _
  exact cutmov_contract H enc W base args ds gs before hval hW hk

theorem cutmov_holds : Rows.CutMovesUptoSaid :=
  OpenClaim.holds_of_cond 4 Try.f4 rfl rfl rfl rfl rfl rfl rfl ⟨rfl, rfl, rfl, rfl, rfl⟩ rfl rfl rfl rfl rfl (by kernel_rfl) Try.func4 (by kernel_rfl)
    (of_decide_eq_true (by kernel_rfl)) (by unfold Func.isWrapper; first | (rw [if_pos (by decide +kernel)]; kernel_rfl) | (rw [if_neg (by decide +kernel)]; exact ⟨rfl, rfl⟩))
    (fun os started H enc _ F => cutmov_lifted os started H enc F)
#print axioms cutmov_holds
end Go.Proofs.Ytiecnmojbdogfaa
