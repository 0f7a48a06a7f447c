/- Walks: Nodes and Graph of a maker that is read only. -/
import Derived.Test.YtodncnlnadgkhacSaMak5
import Derived.Test.YtodncnlnadgkhacFwS
set_option linter.unusedSimpArgs false
set_option linter.unusedVariables false
namespace Go.Ab
open Go
/-- A maker whose ands are read only. -/
def MkF (mem : Mem) (o v : Nat) (fi fr : Nat → AV) (M : Mak) : Prop := ∃ f sid sv, mem o = .var v [.fs M.ni fi, .fs M.nr fr, .fs M.n f, .mp sid sv, .int .i64 M.bad] ∧ ∀ i, i < M.n → f i = .agg [.int .i64 (M.A i), .int .i64 (M.B i)]
theorem MkF.keep {mem mem' : Mem} {o v : Nat} {fi fr : Nat → AV} {M : Mak} (h : MkF mem o v fi fr M) (hm : mem' o = mem o) : MkF mem' o v fi fr M := by
  obtain ⟨f, sid, sv, h1, h2⟩ := h
  exact ⟨f, sid, sv, hm.trans h1, h2⟩
theorem MkA.shiftF {mem : Mem} {o v : Nat} {fi fr : Nat → AV} {M : Mak} {S : Nat → Prop} (h : MkA mem o v fi fr M S) : ∃ m', (∀ e, Shift e mem e m') ∧ MkF m' o v fi fr M ∧ ∀ k, ¬ S k → m' k = mem k := by
  obtain ⟨av, sid, sv, p, g, h1, h2, l1, l3, l5, hA, hp, hg⟩ := h
  rcases hA with ⟨hz, rfl⟩ | ⟨aid, V, f, rfl, e2, e3, e5, e6, e7⟩
  · exact ⟨_, fun e => Shift.capC (c := 2) (fun _ => .undef) h1 (Nat.lt_of_lt_of_le (show 2 < 5 by decide) (Nat.le_refl _)) rfl, ⟨fun _ => .undef, sid, sv, by rw [set_same, hz]; rfl, fun i hi => absurd hi (by omega)⟩, fun k hk => set_ne (fun e => hk (by rw [e]; exact l1)) _ _⟩
  · exact ⟨_, fun e => Shift.frzC (c := 2) e2 h1 (Nat.lt_of_lt_of_le (show 2 < 5 by decide) (Nat.le_refl _)) rfl, ⟨f, sid, sv, by rw [set_same]; rfl, e7⟩, fun k hk => by rw [set_ne (fun e => hk (by rw [e]; exact l1)), set_ne (fun e => hk (by rw [e]; exact e3))]⟩
theorem p13F {mem : Mem} {o v : Nat} {fi fr : Nat → AV} {M : Mak} (h : MkF mem o v fi fr M) (ok : M.Ok) : CallW PP 13 [.ptr o v 0] mem fun r m => r = .int .i64 (M.nodes : Nat) ∧ m = mem := by
  obtain ⟨f, sid, sv, h1, e7⟩ := h
  have hni := ok.ni; have hnr := ok.nr; have hn := ok.n
  refine Fn.call fmix f13 ?_
  unfold a13 r13
  have fin : IntKind.i64.wrap (IntKind.i64.wrap (IntKind.i64.wrap (1 + (M.ni : Int)) + (M.nr : Int)) + (M.n : Int)) = (M.nodes : Nat) := by
    rw [wI (n := 1 + (M.ni : Int)) (by omega) (by omega), wI (n := 1 + (M.ni : Int) + (M.nr : Int)) (by omega) (by omega), wI (by omega) (by omega)]
    unfold Mak.nodes Mak.base; omega
  simp -implicitDefEqProofs only [vqa, Nat.reduceEqDiff, Nat.reduceAdd, reduceIte, Nat.reduceLeDiff, Nat.reduceBEq, Nat.reduceLT, Nat.reduceSub, Int.reduceLT, Int.reduceLE, Int.reduceEq, Int.reduceToNat, Nat.reduceMul, eq_self, implies_true, forall_const]
  refine vAny [0, 1, 2, 3, 4, 5, 6, 7, 8, 9, 10, 11, 12, 13, 14, 15, 16, 17, 18] 19 allL rfl rfl ?_
  simp -implicitDefEqProofs only [vqa, Nat.reduceEqDiff, Nat.reduceAdd, reduceIte, Nat.reduceLeDiff, Nat.reduceBEq, Nat.reduceLT, Nat.reduceSub, Int.reduceLT, Int.reduceLE, Int.reduceEq, Int.reduceToNat, Nat.reduceMul, eq_self, implies_true, forall_const, h1]
  exact fin
set_option maxHeartbeats 2000000 in
theorem p15F (b : Nat) {mem : Mem} {o v : Nat} {fi fr : Nat → AV} {M : Mak} (h : MkF mem o v fi fr M) (ok : M.Ok) (ho : o < b) {nin : Nat → ByteArray} {rg : Nat → RegV} (hfi : ∀ i, i < M.ni → fi i = .str (nin i)) (hfr : ∀ i, i < M.nr → fr i = (rg i).av)
    {no nk nn : Nat} {fo fk fn : Nat → AV} {out : Nat → ByteArray} {outs nx : Nat → Int} (hfo : ∀ i, i < no → fo i = .str (out i)) (hfk : ∀ i, i < nk → fk i = .int .i64 (outs i)) (hfn : ∀ i, i < nn → fn i = .int .i64 (nx i)) (gok : (M.gra nin rg no out nk outs (fun i => (rg i).next)).Ok) (hnx : ∀ i, i < nn → L64 (nx i)) (hnn : nn ≤ 1048576) :
    CallW PP 15 [.ptr o v 0, .fs no fo, .fs nk fk, .fs nn fn] mem fun r m => ((M.graF nn (M.gra nin rg no out nk outs nx) ≠ 0 ∧ r = .tup [.agg [.cap0, .cap0, .cap0, .cap0, .cap0], .int .i64 (M.graF nn (M.gra nin rg no out nk outs nx))]) ∨
      (M.graF nn (M.gra nin rg no out nk outs nx) = 0 ∧ ∃ a0 a1 rv a3 a4, r = .tup [.agg [.fs M.ni a0, .fs no a1, rv, .fs M.n a3, .fs nk a4], .int .i64 0] ∧ (∀ i, i < M.ni → a0 i = .str (nin i)) ∧ (∀ i, i < no → a1 i = .str (out i)) ∧ (∀ i, i < M.n → a3 i = .agg [.int .i64 (M.A i), .int .i64 (M.B i)]) ∧ (∀ i, i < nk → a4 i = .int .i64 (outs i)) ∧ Acc (b + 1101) 37 3 M.nr (fun k a => a = (⟨(rg k).name, nx k, (rg k).init⟩ : RegV).av) rv m)) ∧ Frame (fun _ => False) b mem m := by
  obtain ⟨f, sid, sv, h1, e7⟩ := h
  have n1 := ok.ni; have n2 := ok.nr; have n3 := ok.n
  refine Fn.call fmix (g15 b) ?_
  unfold b15 q15
  simp -implicitDefEqProofs only [vqa, Nat.reduceEqDiff, Nat.reduceAdd, reduceIte, Nat.reduceLeDiff, Nat.reduceBEq, Nat.reduceLT, Nat.reduceSub, Int.reduceLT, Int.reduceLE, Int.reduceEq, Int.reduceToNat, Nat.reduceMul, eq_self, implies_true, forall_const, h1, bNe ho, bNe' ho]
  have eb : ∀ {c : Int}, M.graF nn (M.gra nin rg no out nk outs nx) = c → c ≠ 0 → (M.graF nn (M.gra nin rg no out nk outs nx) ≠ 0 ∧ (AV.tup [.agg [.cap0, .cap0, .cap0, .cap0, .cap0], .int .i64 c]) = .tup [.agg [.cap0, .cap0, .cap0, .cap0, .cap0], .int .i64 (M.graF nn (M.gra nin rg no out nk outs nx))]) := fun e hc => ⟨by rw [e]; exact hc, by rw [e]⟩
  refine ⟨fun c1 => ?_, fun c1 => ⟨fun c2 => ?_, fun c2 => ?_⟩⟩
  · refine vAnyT [0, 1, 2, 3, 4] (.step 5 (.step 6 .leaf)) (fun m' => m' o = .var v [.fs M.ni fi, .fs M.nr fr, .fs M.n f, .mp sid sv, .int .i64 M.bad]) (by kernel_rfl) (by kernel_rfl) (by simp -implicitDefEqProofs only [vqa, Nat.reduceEqDiff, Nat.reduceAdd, reduceIte, Nat.reduceLeDiff, Nat.reduceBEq, Nat.reduceLT, Nat.reduceSub, Int.reduceLT, Int.reduceLE, Int.reduceEq, Int.reduceToNat, Nat.reduceMul, eq_self, implies_true, forall_const, h1, bNe ho, bNe' ho]) ?_
    simp -implicitDefEqProofs only [vqa, Nat.reduceEqDiff, Nat.reduceAdd, reduceIte, Nat.reduceLeDiff, Nat.reduceBEq, Nat.reduceLT, Nat.reduceSub, Int.reduceLT, Int.reduceLE, Int.reduceEq, Int.reduceToNat, Nat.reduceMul, eq_self, implies_true, forall_const, vqt, h1, bNe ho, bNe' ho]
    refine ⟨fun m' hm' => (by rw [hm']; exact ⟨_, rfl, rfl⟩), fun m' hm' => (by rw [hm']; exact ⟨_, rfl, rfl⟩), fun m' hm' => (by rw [hm']; exact ⟨_, rfl, rfl⟩), ?_⟩
    exact ⟨.inl (eb (by unfold Mak.graF; rw [if_pos c1]) c1), (by repeat (first | exact Frame.refl | refine Frame.set ?_ (.inl (by omega))))⟩
  · exact ⟨.inl (eb (by unfold Mak.graF; rw [if_neg c1, if_pos (by omega)]) (by decide)), (by repeat (first | exact Frame.refl | refine Frame.set ?_ (.inl (by omega))))⟩
  have enn : nn = M.nr := by omega
  subst enn
  have eF : M.graF M.nr (M.gra nin rg no out nk outs nx) = graphF (M.gra nin rg no out nk outs nx) := by unfold Mak.graF; rw [if_neg c1, if_neg (by simp)]
  generalize (mem (b + 8)).ver + 1 = V8
  refine seq_join (fun e m => e 3 = .fs M.nr fn ∧ e 8 = .ptr (b + 8) V8 0 ∧ m (b + 8) = .var V8 [.cap0, .cap0, .cap0, .cap0, .cap0] ∧ ∃ V10 a0 a1 rv a3 a4, e 10 = .ptr (b + 10) V10 0 ∧ m (b + 10) = .var V10 [.fs M.ni a0, .fs no a1, rv, .fs M.n a3, .fs nk a4] ∧ (∀ i, i < M.ni → a0 i = .str (nin i)) ∧ (∀ i, i < no → a1 i = .str (out i)) ∧ (∀ i, i < M.n → a3 i = .agg [.int .i64 (M.A i), .int .i64 (M.B i)]) ∧ (∀ i, i < nk → a4 i = .int .i64 (outs i)) ∧ Acc (b + 1101) 37 3 M.nr (fun k a => a = (rg k).av) rv m ∧ Frame (fun _ => False) b mem m) ?_ ?_
  · have hG : GraC [.fs M.ni fi, .fs no fo, .fs M.nr fr, .fs M.n f, .fs nk fk] (M.gra nin rg no out nk outs (fun i => (rg i).next)) := ⟨fi, fo, fr, f, fk, rfl, hfi, hfo, hfr, e7, hfk⟩
    refine vAnyT [0, 1, 2, 3, 4, 5, 6, 7, 8, 9, 10, 11, 12, 13, 14] (.fork (.step 15 (.step 16 (.step 17 .leaf))) (.step 16 (.step 15 (.step 17 .leaf)))) (fun m' => m' o = .var v [.fs M.ni fi, .fs M.nr fr, .fs M.n f, .mp sid sv, .int .i64 M.bad]) (by kernel_rfl) (by kernel_rfl) (by simp -implicitDefEqProofs only [vqa, Nat.reduceEqDiff, Nat.reduceAdd, reduceIte, Nat.reduceLeDiff, Nat.reduceBEq, Nat.reduceLT, Nat.reduceSub, Int.reduceLT, Int.reduceLE, Int.reduceEq, Int.reduceToNat, Nat.reduceMul, eq_self, implies_true, forall_const, h1, bNe ho, bNe' ho]) ?_
    simp -implicitDefEqProofs only [vqa, Nat.reduceEqDiff, Nat.reduceAdd, reduceIte, Nat.reduceLeDiff, Nat.reduceBEq, Nat.reduceLT, Nat.reduceSub, Int.reduceLT, Int.reduceLE, Int.reduceEq, Int.reduceToNat, Nat.reduceMul, eq_self, implies_true, forall_const, vqt, h1, bNe ho, bNe' ho]
    refine ⟨fun m' hm' => (by rw [hm']; exact ⟨_, rfl, rfl⟩), fun m' hm' => (by rw [hm']; exact ⟨_, rfl, rfl⟩), fun m' hm' => (by rw [hm']; exact ⟨_, rfl, rfl⟩), fun m' hm' => (by rw [hm']; exact ⟨_, rfl, rfl⟩), fun m' hm' => (by rw [hm']; exact ⟨_, rfl, rfl⟩), fun m' hm' => (by rw [hm']; exact ⟨_, rfl, rfl⟩), fun m' hm' => (by rw [hm']; exact ⟨_, rfl, rfl⟩), fun m' hm' => (by rw [hm']; exact ⟨_, rfl, rfl⟩), fun m' hm' => (by rw [hm']; exact ⟨_, rfl, rfl⟩), ?_, ?_⟩
    · refine CallW.mono (p45g (b + 1000) _ hG gok) fun r m2 ⟨a0, a1, rv, a3, a4, hr, q0, q1, q3, q4, hR, hK⟩ => ?_
      subst hr
      have hR' : Acc (b + 1101) 37 3 M.nr (fun k a => a = (rg k).av) rv m2 := hR
      have hmo := hK o (by omega)
      have hm8 := hK (b + 8) (by omega)
      have hm10 := hK (b + 10) (by omega)
      simp -implicitDefEqProofs only [vqa, Nat.reduceEqDiff, Nat.reduceAdd, reduceIte, Nat.reduceLeDiff, Nat.reduceBEq, Nat.reduceLT, Nat.reduceSub, Int.reduceLT, Int.reduceLE, Int.reduceEq, Int.reduceToNat, Nat.reduceMul, eq_self, implies_true, forall_const, h1, bNe ho, bNe' ho] at hmo hm8 hm10
      obtain ⟨t1, t2, t3⟩ : rv.okv = true ∧ rv.cells = [rv] ∧ rv.isCell = true := by rcases hR with ⟨_, rfl⟩ | ⟨_, _, rfl, _, _⟩ <;> exact ⟨rfl, rfl, rfl⟩
      simp -implicitDefEqProofs only [vqa, Nat.reduceEqDiff, Nat.reduceAdd, reduceIte, Nat.reduceLeDiff, Nat.reduceBEq, Nat.reduceLT, Nat.reduceSub, Int.reduceLT, Int.reduceLE, Int.reduceEq, Int.reduceToNat, Nat.reduceMul, eq_self, implies_true, forall_const, vqt, hmo, hm8, hm10, bNe ho, bNe' ho, t1, t2, t3]
      have hFr2 : Frame (fun _ => False) b mem m2 := fun i hi hs => (hK i (by omega)).trans ((show Frame (fun _ => False) b mem _ by repeat (first | exact Frame.refl | refine Frame.set ?_ (by exact .inl (by omega)))) i hi hs)
      exact ⟨_, a0, a1, rv, a3, a4, rfl, rfl, q0, q1, q3, q4, hR'.keep (by simp -implicitDefEqProofs only [vqa, Nat.reduceEqDiff, Nat.reduceAdd, reduceIte, Nat.reduceLeDiff, Nat.reduceBEq, Nat.reduceLT, Nat.reduceSub, Int.reduceLT, Int.reduceLE, Int.reduceEq, Int.reduceToNat, Nat.reduceMul, eq_self, implies_true, forall_const]), (by repeat (first | exact hFr2 | refine Frame.set ?_ (.inl (by omega))))⟩
    · refine CallW.mono (p45g (b + 1000) _ hG gok) fun r m2 ⟨a0, a1, rv, a3, a4, hr, q0, q1, q3, q4, hR, hK⟩ => ?_
      subst hr
      have hR' : Acc (b + 1101) 37 3 M.nr (fun k a => a = (rg k).av) rv m2 := hR
      have hmo := hK o (by omega)
      have hm8 := hK (b + 8) (by omega)
      have hm10 := hK (b + 10) (by omega)
      simp -implicitDefEqProofs only [vqa, Nat.reduceEqDiff, Nat.reduceAdd, reduceIte, Nat.reduceLeDiff, Nat.reduceBEq, Nat.reduceLT, Nat.reduceSub, Int.reduceLT, Int.reduceLE, Int.reduceEq, Int.reduceToNat, Nat.reduceMul, eq_self, implies_true, forall_const, h1, bNe ho, bNe' ho] at hmo hm8 hm10
      obtain ⟨t1, t2, t3⟩ : rv.okv = true ∧ rv.cells = [rv] ∧ rv.isCell = true := by rcases hR with ⟨_, rfl⟩ | ⟨_, _, rfl, _, _⟩ <;> exact ⟨rfl, rfl, rfl⟩
      simp -implicitDefEqProofs only [vqa, Nat.reduceEqDiff, Nat.reduceAdd, reduceIte, Nat.reduceLeDiff, Nat.reduceBEq, Nat.reduceLT, Nat.reduceSub, Int.reduceLT, Int.reduceLE, Int.reduceEq, Int.reduceToNat, Nat.reduceMul, eq_self, implies_true, forall_const, vqt, hmo, hm8, hm10, bNe ho, bNe' ho, t1, t2, t3]
      have hFr2 : Frame (fun _ => False) b mem m2 := fun i hi hs => (hK i (by omega)).trans ((show Frame (fun _ => False) b mem _ by repeat (first | exact Frame.refl | refine Frame.set ?_ (by exact .inl (by omega)))) i hi hs)
      exact ⟨_, a0, a1, rv, a3, a4, rfl, rfl, q0, q1, q3, q4, hR'.keep (by simp -implicitDefEqProofs only [vqa, Nat.reduceEqDiff, Nat.reduceAdd, reduceIte, Nat.reduceLeDiff, Nat.reduceBEq, Nat.reduceLT, Nat.reduceSub, Int.reduceLT, Int.reduceLE, Int.reduceEq, Int.reduceToNat, Nat.reduceMul, eq_self, implies_true, forall_const]), (by repeat (first | exact hFr2 | refine Frame.set ?_ (.inl (by omega))))⟩
  · rintro e m ⟨e3, e8, m8, V10, a0, a1, rv, a3, a4, e10, m10, q0, q1, q3, q4, hR, hFr⟩
    simp -implicitDefEqProofs only [vqa, Nat.reduceEqDiff, Nat.reduceAdd, reduceIte, Nat.reduceLeDiff, Nat.reduceBEq, Nat.reduceLT, Nat.reduceSub, Int.reduceLT, Int.reduceLE, Int.reduceEq, Int.reduceToNat, Nat.reduceMul, eq_self, implies_true, forall_const, e3, e8, m8, e10, m10]
    have hR0 : Acc (b + 1101) 37 3 M.nr (fun k a => a = .agg [.str (rg k).name, .int .i64 (if k < 0 then nx k else (rg k).next), .bool (rg k).init]) rv m := by
      rcases hR with h | ⟨ver, gg, h1, h2, h3⟩
      · exact .inl h
      · exact .inr ⟨ver, gg, h1, h2, fun k hk => by have := h3 k hk; simp only [Nat.not_lt_zero, if_false]; exact this⟩
    refine vFor M.nr (fun i e m => e 8 = .ptr (b + 8) V8 0 ∧ m (b + 8) = .var V8 [.cap0, .cap0, .cap0, .cap0, .cap0] ∧ e 10 = .ptr (b + 10) V10 0 ∧ m (b + 10) = .var V10 [.fs M.ni a0, .fs no a1, rv, .fs M.n a3, .fs nk a4] ∧ e 49 = .fs M.nr fn ∧ e 50 = .int .i64 M.nr ∧ e 51 = .int .i64 i ∧ Acc (b + 1101) 37 3 M.nr (fun k a => a = .agg [.str (rg k).name, .int .i64 (if k < i then nx k else (rg k).next), .bool (rg k).init]) rv m ∧ Frame (fun _ => False) b mem m) ?_ ?_ ?_
    · simp -implicitDefEqProofs only [vqa, Nat.reduceEqDiff, Nat.reduceAdd, reduceIte, Nat.reduceLeDiff, Nat.reduceBEq, Nat.reduceLT, Nat.reduceSub, Int.reduceLT, Int.reduceLE, Int.reduceEq, Int.reduceToNat, Nat.reduceMul, eq_self, implies_true, forall_const, e8, m8, e10, m10]
      exact ⟨hR0, hFr⟩
    · clear hR0 hR hFr e3 e8 m8 e10 m10 e m
      rintro i e m hi hi' ⟨e8, m8, e10, m10, e49, e50, e51, hR, hFr⟩
      rcases hR with ⟨hz, hv⟩ | ⟨ver, gg, rfl, hm, hgg⟩
      · omega
      have hgi := hgg i hi
      simp only [Nat.lt_irrefl, if_false] at hgi
      unfold b15_0
      simp -implicitDefEqProofs only [vqa, Nat.reduceEqDiff, Nat.reduceAdd, reduceIte, Nat.reduceLeDiff, Nat.reduceBEq, Nat.reduceLT, Nat.reduceSub, Int.reduceLT, Int.reduceLE, Int.reduceEq, Int.reduceToNat, Nat.reduceMul, eq_self, implies_true, forall_const, e8, m8, e10, m10, e49, e50, e51, hi', hfn i hi, hm, hgi]
      refine ⟨by omega, by omega, by omega, hi, wI (by omega) (by omega), .inr ⟨_, _, rfl, set_same _ _ _, fun k hk => ?_⟩, hFr.set (.inl (by omega))⟩
      show _ = AV.agg [.str (rg k).name, .int .i64 (if k < i + 1 then nx k else (rg k).next), .bool (rg k).init]
      by_cases e : k = i
      · subst e
        simp only [decide_true, cond_true]
        rw [if_pos (by omega)]
      · simp only [e, decide_false, cond_false]
        rw [hgg k hk]
        by_cases h : k < i
        · rw [if_pos h, if_pos (by omega)]
        · rw [if_neg h, if_neg (by omega)]
    · clear hR0 hR hFr e3 e8 m8 e10 m10 e m
      rintro e m ⟨e8, m8, e10, m10, e49, e50, e51, hR, hFr⟩
      unfold b15_0
      have gok' : (M.gra nin rg no out nk outs nx).Ok := ⟨gok.ni, gok.no, gok.nr, gok.na, gok.nk, gok.inn, gok.out, fun i hi => ⟨(gok.reg i hi).1, hnx i hi⟩, gok.A, gok.B, gok.outs⟩
      have hD : ∀ gg : Nat → AV, (∀ k, k < M.nr → gg k = .agg [.str (rg k).name, .int .i64 (nx k), .bool (rg k).init]) → GraC [.fs M.ni a0, .fs no a1, .fs M.nr gg, .fs M.n a3, .fs nk a4] (M.gra nin rg no out nk outs nx) := fun gg hgg => ⟨a0, a1, gg, a3, a4, rfl, q0, q1, hgg, q3, q4⟩
      have hR' : Acc (b + 1101) 37 3 M.nr (fun k a => a = (⟨(rg k).name, nx k, (rg k).init⟩ : RegV).av) rv m := by
        rcases hR with h | ⟨ver, gg, h1, h2, h3⟩
        · exact .inl h
        · exact .inr ⟨ver, gg, h1, h2, fun k hk => by have := h3 k hk; simp only [hk, if_true] at this; exact this⟩
      simp -implicitDefEqProofs only [vqa, Nat.reduceEqDiff, Nat.reduceAdd, reduceIte, Nat.reduceLeDiff, Nat.reduceBEq, Nat.reduceLT, Nat.reduceSub, Int.reduceLT, Int.reduceLE, Int.reduceEq, Int.reduceToNat, Nat.reduceMul, eq_self, implies_true, forall_const, e8, m8, e10, m10, e49, e50, e51]
      rcases hR' with ⟨hz, rfl⟩ | ⟨ver, gg, rfl, hm, hgg⟩
      · have hD0 := hD (fun _ => .undef) (fun k hk => absurd hk (by omega))
        rw [hz] at hD0
        refine CallW.sc (p42 hD0 gok') ?_ ?_ fun r hr => ⟨by subst hr; rfl, ?_⟩
        · simp only [rsC, rs2, rs1, rs0, vqa, Nat.reduceEqDiff, Nat.reduceAdd, reduceIte, Nat.reduceLeDiff, Nat.reduceBEq, Nat.reduceLT, Nat.reduceSub, Int.reduceLT, Int.reduceLE, Int.reduceEq, Int.reduceToNat, Nat.reduceMul, eq_self, implies_true, forall_const]
        · simp only [rsC, rs2, rs1, rs0, vqa, Nat.reduceEqDiff, Nat.reduceAdd, reduceIte, Nat.reduceLeDiff, Nat.reduceBEq, Nat.reduceLT, Nat.reduceSub, Int.reduceLT, Int.reduceLE, Int.reduceEq, Int.reduceToNat, Nat.reduceMul, eq_self, implies_true, forall_const]
        subst hr
        simp -implicitDefEqProofs only [vqa, Nat.reduceEqDiff, Nat.reduceAdd, reduceIte, Nat.reduceLeDiff, Nat.reduceBEq, Nat.reduceLT, Nat.reduceSub, Int.reduceLT, Int.reduceLE, Int.reduceEq, Int.reduceToNat, Nat.reduceMul, eq_self, implies_true, forall_const, e8, m8, e10, m10]
        refine ⟨fun k3 => ⟨.inl (eb eF k3), (by repeat (first | exact hFr | refine Frame.set ?_ (.inl (by omega))))⟩, fun k3 => ⟨.inr ⟨by rw [eF]; exact Classical.not_not.1 k3, a0, a1, _, a3, a4, rfl, q0, q1, q3, q4, .inl ⟨hz, rfl⟩⟩, (by repeat (first | exact hFr | refine Frame.set ?_ (.inl (by omega))))⟩⟩
      · refine CallW.sc (p42 (hD gg hgg) gok') ?_ ?_ fun r hr => ⟨by subst hr; rfl, ?_⟩
        · simp only [rsC, rs2, rs1, rs0, vqa, Nat.reduceEqDiff, Nat.reduceAdd, reduceIte, Nat.reduceLeDiff, Nat.reduceBEq, Nat.reduceLT, Nat.reduceSub, Int.reduceLT, Int.reduceLE, Int.reduceEq, Int.reduceToNat, Nat.reduceMul, eq_self, implies_true, forall_const, hm]
        · simp only [rsC, rs2, rs1, rs0, vqa, Nat.reduceEqDiff, Nat.reduceAdd, reduceIte, Nat.reduceLeDiff, Nat.reduceBEq, Nat.reduceLT, Nat.reduceSub, Int.reduceLT, Int.reduceLE, Int.reduceEq, Int.reduceToNat, Nat.reduceMul, eq_self, implies_true, forall_const, hm]
        subst hr
        simp -implicitDefEqProofs only [vqa, Nat.reduceEqDiff, Nat.reduceAdd, reduceIte, Nat.reduceLeDiff, Nat.reduceBEq, Nat.reduceLT, Nat.reduceSub, Int.reduceLT, Int.reduceLE, Int.reduceEq, Int.reduceToNat, Nat.reduceMul, eq_self, implies_true, forall_const, e8, m8, e10, m10]
        refine ⟨fun k3 => ⟨.inl (eb eF k3), (by repeat (first | exact hFr | refine Frame.set ?_ (.inl (by omega))))⟩, fun k3 => ⟨.inr ⟨by rw [eF]; exact Classical.not_not.1 k3, a0, a1, _, a3, a4, rfl, q0, q1, q3, q4, .inr ⟨ver, gg, rfl, ?_, hgg⟩⟩, (by repeat (first | exact hFr | refine Frame.set ?_ (.inl (by omega))))⟩⟩
        simp -implicitDefEqProofs only [vqa, Nat.reduceEqDiff, Nat.reduceAdd, reduceIte, Nat.reduceLeDiff, Nat.reduceBEq, Nat.reduceLT, Nat.reduceSub, Int.reduceLT, Int.reduceLE, Int.reduceEq, Int.reduceToNat, Nat.reduceMul, eq_self, implies_true, forall_const, hm]
theorem p15f (b : Nat) {mem : Mem} {o v : Nat} {fi fr : Nat → AV} {M : Mak} (h : MkF mem o v fi fr M) (ok : M.Ok) (ho : o < b) {nin : Nat → ByteArray} {rg : Nat → RegV} (hfi : ∀ i, i < M.ni → fi i = .str (nin i)) (hfr : ∀ i, i < M.nr → fr i = (rg i).av)
    {no nk nn : Nat} {fo fk fn : Nat → AV} {out : Nat → ByteArray} {outs nx : Nat → Int} (hfo : ∀ i, i < no → fo i = .str (out i)) (hfk : ∀ i, i < nk → fk i = .int .i64 (outs i)) (hfn : ∀ i, i < nn → fn i = .int .i64 (nx i)) (gok : (M.gra nin rg no out nk outs (fun i => (rg i).next)).Ok) (hnx : ∀ i, i < nn → L64 (nx i)) (hnn : nn ≤ 1048576) (hz : M.graF nn (M.gra nin rg no out nk outs nx) = 0) :
    CallW PP 15 [.ptr o v 0, .fs no fo, .fs nk fk, .fs nn fn] mem fun r m => ∃ ds, r = .tup [.agg ds, .int .i64 0] ∧ GraC ds (M.gra nin rg no out nk outs nx) ∧ ∀ i, i < b → m i = mem i := by
  refine CallW.shR ((p15F b h ok ho hfi hfr hfo hfk hfn gok hnx hnn).mono fun r m ⟨hc, hF⟩ => ?_)
  rcases hc with ⟨h0, _⟩ | ⟨_, a0, a1, rv, a3, a4, hr, q0, q1, q3, q4, hR⟩
  · exact absurd hz h0
  subst hr
  have hF' : ∀ i, i < b → m i = mem i := fun i hi => hF i hi fun h => h
  rcases hR with ⟨hnr, rfl⟩ | ⟨V, g, rfl, hm, hg⟩
  · refine ⟨_, _, RSh.capT (c := 2) (fun _ => .undef) (show 2 < 5 from by decide) rfl, _, rfl, ⟨a0, a1, fun _ => .undef, a3, a4, ?_, q0, q1, fun i hi => absurd hi (by show ¬ i < M.nr; omega), q3, q4⟩, hF'⟩
    show [AV.fs M.ni a0, .fs no a1, .fs 0 _, .fs M.n a3, .fs nk a4] = [AV.fs M.ni a0, .fs no a1, .fs M.nr _, .fs M.n a3, .fs nk a4]
    rw [hnr]
  · exact ⟨_, _, RSh.frzT (c := 2) hm (show 2 < 5 from by decide) rfl, _, rfl, ⟨a0, a1, g, a3, a4, rfl, q0, q1, hg, q3, q4⟩, fun i hi => by rw [set_ne (by omega)]; exact hF' i hi⟩
end Go.Ab
