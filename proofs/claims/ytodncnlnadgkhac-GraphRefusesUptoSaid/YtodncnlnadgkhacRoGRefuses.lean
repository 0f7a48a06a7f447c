/- 'masklaw3.GraphRefuses' returns true, and its arguments read behind the call as they did, for every input whose bulk is at most 1048576. No other condition. -/
import Derived.Test.YtodncnlnadgkhacRoGraph
import Derived.Test.YtodncnlnadgkhacSaRefL
set_option linter.unusedVariables false
set_option linter.unusedSimpArgs false
namespace Go.Proofs.Ytodncnlnadgkhac
open Go.ChangeShapes Go.WideShapes Go.ChangeAt Go.RowKit Go.Ab

theorem rdRegs : ReadsAs Try.prog 30 (pSl pReg) := readsAs_slice Try.underlying30 (by decide +kernel) rdReg
theorem open_regs {B : Nat} {avs : List AV} (h : pSl pReg B avs) : ∃ (n : Nat) (f : Nat → AV) (x : Nat → RegV), avs = [.fs n f] ∧ n ≤ B ∧ ∀ i, i < n → f i = (x i).av ∧ (x i).name.size ≤ B ∧ L64 (x i).next := by
  obtain ⟨n2, f2, rfl, l2, k2⟩ := h
  obtain ⟨x2, g2⟩ := choose_lt (α := RegV) (q := fun i z => f2 i = z.av ∧ z.name.size ≤ B ∧ L64 z.next) (n := n2) fun i hi => by
    obtain ⟨a, e1, b0, s0, rfl, ⟨s, rfl, hs⟩, b1, s1, rfl, ⟨x, rfl, hx⟩, b4, s4, rfl, ⟨t, rfl⟩, rfl⟩ := k2 i hi
    exact ⟨⟨s, x, t⟩, e1, hs, hx⟩
  exact ⟨n2, f2, x2, rfl, l2, g2⟩

set_option maxRecDepth 100000 in
theorem grefuses_contract (H : Type) (enc : TypeId × Value → H) (W : World) (base : Nat) (args : Array Value) (ds gs : List (DataW H)) (before : List MemPlace)
    (hval : ∀ (j : Nat) t v, Try.f4.params[j]? = some t → args[j]? = some v → Value.okWide Try.prog W .any base t v)
    (hW : DataW.Whole enc Try.prog Try.f4.params.toList Rows.graphRefusesSpec.vars false W args.toList ds gs before) (hk : Rows.uptoSmall H (ds ++ gs) = true) :
    Calls Try.prog 4 args W fun e W' => ∃ v, e = .returned v ∧ Rows.graphRefusesSpec.post enc Try.prog Try.f4 false true false false W args v W' := by
  have hW' := hW
  obtain ⟨p, q, hA0, hV, rfl, hfz, hnd⟩ := hW
  have hA : DataW.TrodAll enc Try.prog W 0 (fun _ => true) true Try.f4.params.toList args.toList ds p := hA0
  rw [Try.params4] at hA hval
  obtain ⟨v0, vs0, d0, ds0, p0, q0, hargs, rfl, rfl, h0, r0⟩ := trodAll_cons hA
  obtain ⟨v1, vs1, d1, ds1, p1, q1, rfl, rfl, rfl, h1, r1⟩ := trodAll_cons r0
  obtain ⟨v2, vs2, d2, ds2, p2, q2, rfl, rfl, rfl, h2, r2⟩ := trodAll_cons r1
  obtain ⟨v3, vs3, d3, ds3, p3, q3, rfl, rfl, rfl, h3, r3⟩ := trodAll_cons r2
  obtain ⟨v4, vs4, d4, ds4, p4, q4, rfl, rfl, rfl, h4, r4⟩ := trodAll_cons r3
  obtain ⟨v5, vs5, d5, ds5, p5, q5, rfl, rfl, rfl, h5, r5⟩ := trodAll_cons r4
  obtain ⟨v6, vs6, d6, ds6, p6, q6, rfl, rfl, rfl, h6, r6⟩ := trodAll_cons r5
  obtain ⟨v7, vs7, d7, ds7, p7, q7, rfl, rfl, rfl, h7, r7⟩ := trodAll_cons r6
  obtain ⟨v8, vs8, d8, ds8, p8, q8, rfl, rfl, rfl, h8, r8⟩ := trodAll_cons r7
  obtain ⟨rfl, rfl, rfl⟩ := trodAll_nil r8
  obtain rfl : args = #[v0, v1, v2, v3, v4, v5, v6, v7, v8] := by cases args; simp_all
  obtain ⟨rfl, rfl⟩ := trodVars_none hV
  have hb := bulk_bound hk
  simp only [List.append_nil, Rows.uptoBulkAll] at hb hW' ⊢
  obtain ⟨s0, l0, c0, hn0⟩ := okWide_slice Try.underlying28 (hval 0 28 v0 rfl rfl)
  obtain ⟨a0, k0, hp0⟩ := arg_one (meas H) (rdStrs) (by rw [hn0]; rfl) h0 (B := 1048576) (by omega) (fun avs ⟨n, f, h, _⟩ => ⟨_, h⟩)
  obtain ⟨s1, l1, c1, hn1⟩ := okWide_slice Try.underlying30 (hval 1 30 v1 rfl rfl)
  obtain ⟨a1, k1, hp1⟩ := arg_one (meas H) (rdRegs) (by rw [hn1]; rfl) h1 (B := 1048576) (by omega) (fun avs ⟨n, f, h, _⟩ => ⟨_, h⟩)
  obtain ⟨n2, hn2⟩ := okWide_int Try.underlying3 (hval 2 3 v2 rfl rfl)
  obtain ⟨a2, k2, hp2⟩ := arg_one (meas H) (readsAs_int Try.underlying3) (by rw [hn2]; rfl) h2 (B := 1048576) (by omega) (fun avs ⟨n, h, _⟩ => ⟨_, h⟩)
  obtain ⟨n3, hn3⟩ := okWide_int Try.underlying3 (hval 3 3 v3 rfl rfl)
  obtain ⟨a3, k3, hp3⟩ := arg_one (meas H) (readsAs_int Try.underlying3) (by rw [hn3]; rfl) h3 (B := 1048576) (by omega) (fun avs ⟨n, h, _⟩ => ⟨_, h⟩)
  obtain ⟨n4, hn4⟩ := okWide_int Try.underlying44 (hval 4 44 v4 rfl rfl)
  obtain ⟨a4, k4, hp4⟩ := arg_one (meas H) (readsAs_int Try.underlying44) (by rw [hn4]; rfl) h4 (B := 1048576) (by omega) (fun avs ⟨n, h, _⟩ => ⟨_, h⟩)
  obtain ⟨s5, l5, c5, hn5⟩ := okWide_slice Try.underlying32 (hval 5 32 v5 rfl rfl)
  obtain ⟨a5, k5, hp5⟩ := arg_one (meas H) (rdLits) (by rw [hn5]; rfl) h5 (B := 1048576) (by omega) (fun avs ⟨n, f, h, _⟩ => ⟨_, h⟩)
  obtain ⟨s6, l6, c6, hn6⟩ := okWide_slice Try.underlying28 (hval 6 28 v6 rfl rfl)
  obtain ⟨a6, k6, hp6⟩ := arg_one (meas H) (rdStrs) (by rw [hn6]; rfl) h6 (B := 1048576) (by omega) (fun avs ⟨n, f, h, _⟩ => ⟨_, h⟩)
  obtain ⟨s7, l7, c7, hn7⟩ := okWide_slice Try.underlying32 (hval 7 32 v7 rfl rfl)
  obtain ⟨a7, k7, hp7⟩ := arg_one (meas H) (rdLits) (by rw [hn7]; rfl) h7 (B := 1048576) (by omega) (fun avs ⟨n, f, h, _⟩ => ⟨_, h⟩)
  obtain ⟨s8, l8, c8, hn8⟩ := okWide_slice Try.underlying32 (hval 8 32 v8 rfl rfl)
  obtain ⟨a8, k8, hp8⟩ := arg_one (meas H) (rdLits) (by rw [hn8]; rfl) h8 (B := 1048576) (by omega) (fun avs ⟨n, f, h, _⟩ => ⟨_, h⟩)
  obtain ⟨ni, fi, nin, e0, l0, x0⟩ := open_strs hp0
  cases e0
  obtain ⟨nr, fr, rg, e1, l1, x1⟩ := open_regs hp1
  cases e1
  obtain ⟨w2, e2, l2⟩ := hp2
  cases e2
  obtain ⟨w3, e3, l3⟩ := hp3
  cases e3
  obtain ⟨w4, e4, l4⟩ := hp4
  cases e4
  obtain ⟨nl, fl, x, e5, l5, x5⟩ := open_lits hp5
  cases e5
  obtain ⟨no, fo, out, e6, l6, x6⟩ := open_strs hp6
  cases e6
  obtain ⟨nk, fk, outs, e7, l7, x7⟩ := open_lits hp7
  cases e7
  obtain ⟨nn, fn, nx, e8, l8, x8⟩ := open_lits hp8
  cases e8
  refine ((Go.Ab.p4 ni nr no nk nn nl fi fr fo fk fn fl nin rg out outs nx x w2 w3 w4 x0 x1 x6 x7 x8 x5 l0 l1 l6 l7 l8 l5 l2 l3 l4).calls (vs := #[v0, v1, v2, v3, v4, v5, v6, v7, v8]) rfl (fun j hj => ?_)).mono fun e W' ⟨he, hbl⟩ => ?_
  · have hjn : j = 0 ∨ j = 1 ∨ j = 2 ∨ j = 3 ∨ j = 4 ∨ j = 5 ∨ j = 6 ∨ j = 7 ∨ j = 8 := by simp at hj; omega
    rcases hjn with h | h | h | h | h | h | h | h | h <;> subst h <;> assumption
  · subst he
    have hlt : ∀ y ∈ p0 ++ (p1 ++ (p2 ++ (p3 ++ (p4 ++ (p5 ++ (p6 ++ (p7 ++ (p8)))))))), y.block < W.heap.size := fun y hy => by simpa using hW'.lt y (by simpa using hy)
    have st : ∀ {t : Nat} {v : Value} {d : DataW H} {ps : List MemPlace} (sp : Nat → Bool) (hr : Try.prog.readableRec t = true) (hrow : t < Try.prog.types.size) (h : DataW.Trod enc Try.prog W 0 (fun _ => true) true t v d ps) (hin : ∀ y ∈ ps, y ∈ p0 ++ (p1 ++ (p2 ++ (p3 ++ (p4 ++ (p5 ++ (p6 ++ (p7 ++ (p8))))))))) (hsp : ∀ y ∈ p0 ++ (p1 ++ (p2 ++ (p3 ++ (p4 ++ (p5 ++ (p6 ++ (p7 ++ (p8)))))))), sp y.block = true), DataW.Trod enc Try.prog W' 0 sp true t v d ps :=
      fun sp hr hrow h hin hsp => WideElems.Trod_stays laid hr hrow h (fun y hy => hbl.same (hlt y (hin y hy))) (fun y hy => hsp y (hin y hy))
    exact ⟨_, rfl, post_below (pa := p0 ++ (p1 ++ (p2 ++ (p3 ++ (p4 ++ (p5 ++ (p6 ++ (p7 ++ (p8 ++ []))))))))) hW' hbl rfl (fun _ _ _ => trodAll_cons_mk (shut_bool Try.underlying4 _) trodAll_mk0)
      (fun sp hsp => trodAll_cons_mk (st sp (by kernel_rfl) (of_decide_eq_true (by kernel_rfl)) h0 (fun y hy => by simp [hy]) hsp) (trodAll_cons_mk (st sp (by kernel_rfl) (of_decide_eq_true (by kernel_rfl)) h1 (fun y hy => by simp [hy]) hsp) (trodAll_cons_mk (st sp (by kernel_rfl) (of_decide_eq_true (by kernel_rfl)) h2 (fun y hy => by simp [hy]) hsp) (trodAll_cons_mk (st sp (by kernel_rfl) (of_decide_eq_true (by kernel_rfl)) h3 (fun y hy => by simp [hy]) hsp) (trodAll_cons_mk (st sp (by kernel_rfl) (of_decide_eq_true (by kernel_rfl)) h4 (fun y hy => by simp [hy]) hsp) (trodAll_cons_mk (st sp (by kernel_rfl) (of_decide_eq_true (by kernel_rfl)) h5 (fun y hy => by simp [hy]) hsp) (trodAll_cons_mk (st sp (by kernel_rfl) (of_decide_eq_true (by kernel_rfl)) h6 (fun y hy => by simp [hy]) hsp) (trodAll_cons_mk (st sp (by kernel_rfl) (of_decide_eq_true (by kernel_rfl)) h7 (fun y hy => by simp [hy]) hsp) (trodAll_cons_mk (st sp (by kernel_rfl) (of_decide_eq_true (by kernel_rfl)) h8 (fun y hy => by simp [hy]) hsp) trodAll_mk0)))))))))
      rfl (by simp) (ok_one (by kernel_rfl) rfl (okWide_bool_mk Try.underlying4 _))⟩

set_option maxRecDepth 100000 in
theorem grefuses_lifted (os : Os) (started : os.Started) (H : Type) (enc : TypeId × Value → H) (F : Stop.Interp) :
    ReturnsInHanded {} Try.checked os 4 .any ((Rows.OpenSpec.upto Rows.graphRefusesSpec).pre6 enc Try.prog Try.f4 Rows.graphRefusesUptoRow.domain false) (((Rows.OpenSpec.upto Rows.graphRefusesSpec).at F).post enc Try.prog Try.f4 false true false false) := by
  refine returnsInHanded_of_cond (C := Try.checked) (s := Rows.OpenSpec.upto Rows.graphRefusesSpec) (k := Rows.uptoSmall) rfl own started (by kernel_rfl) Try.func4
    (OpenSpec.witness (enc := enc) (C := Try.checked) (s := Rows.OpenSpec.upto Rows.graphRefusesSpec) (k := Rows.uptoSmall) rfl false ⟨#[], #[.slice none 0 0, .slice none 0 0, .int .i64 0, .int .i64 0, .int .u64 0, .slice none 0 0, .slice none 0 0, .slice none 0 0, .slice none 0 0], []⟩ 8 (by kernel_rfl) (by kernel_rfl) (by kernel_rfl)
      (x := ([.nil, .nil, .lit (.int .i64 0), .lit (.int .i64 0), .lit (.int .u64 0), .nil, .nil, .nil, .nil], [], [])) (by kernel_rfl) rfl (by kernel_rfl)) ?_
  intro W base args ds gs before hval hW _ hk _
  exact grefuses_contract H enc W base args ds gs before hval hW hk

theorem grefuses_holds : Rows.GraphRefusesUptoSaid :=
  OpenClaim.holds_of_cond 4 Try.f4 rfl rfl rfl rfl rfl rfl rfl ⟨rfl, rfl, rfl, rfl, rfl⟩ rfl rfl rfl rfl rfl (by kernel_rfl) Try.func4 (by kernel_rfl)
    (of_decide_eq_true (by kernel_rfl)) (by unfold Func.isWrapper; first | (rw [if_pos (by decide +kernel)]; kernel_rfl) | (rw [if_neg (by decide +kernel)]; exact ⟨rfl, rfl⟩))
    (fun os started H enc _ F => grefuses_lifted os started H enc F)
#print axioms grefuses_holds
end Go.Proofs.Ytodncnlnadgkhac
