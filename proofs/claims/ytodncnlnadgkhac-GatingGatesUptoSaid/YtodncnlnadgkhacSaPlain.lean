/- Walk: Plain. -/
import Derived.Test.YtodncnlnadgkhacSaIdx
import Derived.Test.YtodncnlnadgkhacLwLevel
import Derived.Test.YtodncnlnadgkhacLwGraph
import Derived.Test.YtodncnlnadgkhacSaBase
import Derived.Test.YtodncnlnadgkhacLwValues
import Derived.Test.YtodncnlnadgkhacSaForm
import Derived.Test.YtodncnlnadgkhacFwZ
import Derived.Test.YtodncnlnadgkhacLwBit
set_option linter.unusedSimpArgs false
set_option linter.unusedVariables false
namespace Go.Ab
open Go
/-- The net of the node of a literal. -/
def netL (l : Int) : Int := if l < 2 then 0 else l / 2 + 1
/-- What the inverted literals become behind one more question. -/
def turnS (T : List Int) (l : Int) : List Int := if l < 2 ∨ l % 2 = 0 ∨ l ∈ T then T else T ++ [l]
def getL (b : Nat) (T : List Int) (l : Int) : Int := if l < 2 then l else if l % 2 = 0 then netL l else (b : Int) + (T.idxOf l : Nat)
/-- The questions, one after the other. -/
def qW (G : Gra) (d en : Nat → Int) (k : Nat) : Int := if k < G.nk then G.outs k else if (k - G.nk) % 2 = 0 then d ((k - G.nk) / 2) else en ((k - G.nk) / 2)
def tW (G : Gra) (d en : Nat → Int) : Nat → List Int
  | 0 => []
  | k + 1 => turnS (tW G d en k) (qW G d en k)
def Gra.nb (G : Gra) : Nat := 2 + G.ni + G.nr + G.na
def tabW (a b : Int) : Int := if a % 2 = 0 then (if b % 2 = 0 then 8 else 2) else (if b % 2 = 0 then 4 else 1)
def gtW (G : Gra) (T : List Int) (i : Nat) : GateV := if i < G.na then ⟨-1, tabW (G.A i) (G.B i), 2, fun j => if j = 0 then netL (G.A i) else netL (G.B i)⟩ else ⟨-1, 1, 1, fun _ => netL (T.getD (i - G.na) 0)⟩
def tEnd (G : Gra) (d en : Nat → Int) : List Int := tW G d en (G.nk + 2 * G.nr)
def withN (G : Gra) (d en : Nat → Int) : Net where
  ni := G.ni
  inn := G.inn
  no := G.no
  out := G.out
  nf := G.nr
  flop := fun i => ⟨(G.reg i).name, -1, getL G.nb (tEnd G d en) (d i), getL G.nb (tEnd G d en) (en i), (G.reg i).init⟩
  ng := G.na + (tEnd G d en).length
  gate := gtW G (tEnd G d en)
  nk := G.nk
  outs := fun k => getL G.nb (tEnd G d en) (G.outs k)

theorem turnS_pre (T : List Int) (l : Int) : ∃ X, turnS T l = T ++ X := by
  unfold turnS; split
  · exact ⟨[], by simp⟩
  · exact ⟨[l], rfl⟩
theorem turnS_got (T : List Int) (l : Int) : l < 2 ∨ l % 2 = 0 ∨ l ∈ turnS T l := by
  unfold turnS; split
  · rename_i h; exact h
  · simp
theorem tW_pre (G : Gra) (d en : Nat → Int) (k : Nat) : ∀ j, ∃ X, tW G d en (k + j) = tW G d en k ++ X
  | 0 => ⟨[], by simp⟩
  | j + 1 => by
    obtain ⟨X, hX⟩ := tW_pre G d en k j
    obtain ⟨Y, hY⟩ := turnS_pre (tW G d en (k + j)) (qW G d en (k + j))
    exact ⟨X ++ Y, by rw [← List.append_assoc, ← hX]; exact hY⟩
theorem getL_app {b : Nat} {T X : List Int} {l : Int} (h : l < 2 ∨ l % 2 = 0 ∨ l ∈ T) : getL b (T ++ X) l = getL b T l := by
  unfold getL
  by_cases h1 : l < 2
  · rw [if_pos h1, if_pos h1]
  · rw [if_neg h1, if_neg h1]
    by_cases h2 : l % 2 = 0
    · rw [if_pos h2, if_pos h2]
    · rw [if_neg h2, if_neg h2, List.idxOf_append, if_pos ((h.resolve_left h1).resolve_left h2)]
theorem getL_end {G : Gra} {d en : Nat → Int} {b k : Nat} (hk : k < G.nk + 2 * G.nr) : getL b (tW G d en (k + 1)) (qW G d en k) = getL b (tEnd G d en) (qW G d en k) := by
  obtain ⟨X, hX⟩ := tW_pre G d en (k + 1) (G.nk + 2 * G.nr - (k + 1))
  have e : k + 1 + (G.nk + 2 * G.nr - (k + 1)) = G.nk + 2 * G.nr := by omega
  rw [e] at hX
  unfold tEnd
  rw [hX, getL_app]
  exact turnS_got _ _
theorem tW_len (G : Gra) (d en : Nat → Int) : ∀ k, (tW G d en k).length ≤ k
  | 0 => Nat.le_refl _
  | k + 1 => by
    have := tW_len G d en k
    show (turnS _ _).length ≤ _
    unfold turnS; split
    · omega
    · simp; omega
theorem tW_two (G : Gra) (d en : Nat → Int) : ∀ k, ∀ t, t ∈ tW G d en k → 2 ≤ t
  | 0, t, h => by simp [tW] at h
  | k + 1, t, h => by
    have h' : t ∈ turnS (tW G d en k) (qW G d en k) := h
    unfold turnS at h'
    split at h'
    · exact tW_two G d en k t h'
    · rename_i hn
      simp only [List.mem_append, List.mem_singleton] at h'
      rcases h' with h' | rfl
      · exact tW_two G d en k t h'
      · omega
theorem qW_out {G : Gra} {d en : Nat → Int} {k : Nat} (h : k < G.nk) : qW G d en k = G.outs k := if_pos h
theorem qW_d {G : Gra} {d en : Nat → Int} (i : Nat) : qW G d en (G.nk + 2 * i) = d i := by
  unfold qW
  rw [if_neg (by omega), if_pos (by omega)]
  congr 1; omega
theorem qW_en {G : Gra} {d en : Nat → Int} (i : Nat) : qW G d en (G.nk + 2 * i + 1) = en i := by
  unfold qW
  rw [if_neg (by omega), if_neg (by omega)]
  congr 1; omega
/-- A gate stays, whatever comes behind it. -/
theorem gtW_app {G : Gra} {T X : List Int} {i : Nat} (h : i < G.na + T.length) : gtW G (T ++ X) i = gtW G T i := by
  unfold gtW
  by_cases h1 : i < G.na
  · rw [if_pos h1, if_pos h1]
  · rw [if_neg h1, if_neg h1]
    have : (T ++ X).getD (i - G.na) 0 = T.getD (i - G.na) 0 := by
      rw [List.getD_eq_getElem?_getD, List.getD_eq_getElem?_getD, List.getElem?_append_left (by omega)]
    rw [this]
def b101 (b : Nat) : AC := (.seq (.ops [⟨(some 4), none, (.v (.mv (.c .cap0)))⟩]) (.seq (.seq (.ops [⟨(some 5), none, (.v (.mv (.t 1)))⟩, ⟨(some 6), none, (.v (.bin .lss (.t 5) (.c (.int .i64 0))))⟩]) (.cond (.t 6) (.ops [⟨(some 7), none, .bad⟩, ⟨none, none, .bad⟩]) .skip)) (.seq (.seq (.ops [⟨(some 8), none, (.v (.mv (.t 1)))⟩, ⟨(some 9), none, (.v (.mv (.t 0)))⟩, ⟨(some 10), none, (.v (.cp (.t 9)))⟩, ⟨(some 11), none, (.v (.mv (.t 0)))⟩, ⟨(some 12), none, (.v (.len (.t 11)))⟩, ⟨(some 13), none, (.v (.bin .sub (.t 10) (.t 12)))⟩, ⟨(some 14), none, (.v (.bin .sub (.t 8) (.t 13)))⟩, ⟨(some 1), none, (.v (.mv (.t 14)))⟩]) (.seq (.ops [⟨(some 15), none, (.v (.mv (.t 1)))⟩, ⟨(some 16), none, (.v (.bin .gtr (.t 15) (.c (.int .i64 0))))⟩]) (.cond (.t 16) (.ops [⟨(some 17), none, (.v (.mv (.t 0)))⟩, ⟨(some 18), none, (.v (.mv (.t 0)))⟩, ⟨(some 19), none, (.v (.cp (.t 18)))⟩, ⟨(some 20), none, (.v (.slc 1 (.t 17) none (some (.t 19))))⟩, ⟨(some 21), none, (.v (.mv (.t 1)))⟩, ⟨(some 22), none, (.e (.appz (b + 22) 35 1 8 [(.int .i64 0)] (.t 20) (.t 21)))⟩, ⟨(some 23), none, (.v (.mv (.t 0)))⟩, ⟨(some 24), none, (.v (.len (.t 23)))⟩, ⟨(some 25), none, (.v (.slc 1 (.t 22) none (some (.t 24))))⟩, ⟨(some 0), none, (.v (.mv (.t 25)))⟩]) .skip))) (.seq (.ops [⟨(some 26), none, (.v (.mv (.t 0)))⟩, ⟨(some 4), none, (.v (.mv (.t 26)))⟩]) .ret))))
def q101 : List AI := [(.mv (.t 4))]
theorem g101 (b : Nat) : Fn PP 101 2 (b101 b) q101 := Fn.ofB b (fn := Go.Proofs.Try.f101) (by kernel_rfl) (by kernel_rfl) (by kernel_rfl)
def a87_0 : AC := (.seq (.ops [⟨(some 12), none, (.v (.bin .lss (.t 11) (.t 10)))⟩]) (.seq (.cond (.t 12) .skip (.exit 0)) (.seq (.block 1 (.seq (.ops [⟨(some 13), none, (.v (.idx 1 (.t 9) (.t 11)))⟩, ⟨(some 14), none, (.v (.load 1 false (.t 13)))⟩, ⟨(some 5), none, (.v (.mv (.t 14)))⟩]) (.seq (.ops [⟨(some 15), none, (.v (.mv (.t 3)))⟩, ⟨(some 16), none, (.v (.mv (.t 5)))⟩, ⟨(some 17), none, (.v (.len (.t 16)))⟩, ⟨(some 18), none, (.v (.bin .add (.t 15) (.t 17)))⟩, ⟨(some 3), none, (.v (.mv (.t 18)))⟩]) (.seq (.ops [⟨(some 19), none, (.v (.mv (.t 3)))⟩, ⟨(some 20), none, (.v (.bin .lss (.t 19) (.c (.int .i64 0))))⟩]) (.cond (.t 20) (.ops [⟨(some 21), none, .bad⟩, ⟨none, none, .bad⟩]) .skip))))) (.ops [⟨(some 22), none, (.v (.bin .add (.t 11) (.c (.int .i64 1))))⟩, ⟨(some 11), none, (.v (.mv (.t 22)))⟩]))))
def a87_1 : AC := (.seq (.ops [⟨(some 28), none, (.v (.bin .lss (.t 27) (.t 26)))⟩]) (.seq (.cond (.t 28) .skip (.exit 2)) (.seq (.block 3 (.seq (.ops [⟨(some 29), none, (.v (.idx 1 (.t 25) (.t 27)))⟩, ⟨(some 30), none, (.v (.load 1 false (.t 29)))⟩, ⟨(some 8), none, (.v (.mv (.t 30)))⟩]) (.ops [⟨(some 31), none, (.v (.mv (.t 6)))⟩, ⟨(some 32), none, (.v (.mv (.t 8)))⟩, ⟨(some 33), none, (.e (.app 33 35 1 8 (.t 31) (.t 32)))⟩, ⟨(some 6), none, (.v (.mv (.t 33)))⟩]))) (.ops [⟨(some 34), none, (.v (.bin .add (.t 27) (.c (.int .i64 1))))⟩, ⟨(some 27), none, (.v (.mv (.t 34)))⟩]))))
def a87 : AC := (.seq (.ops [⟨(some 2), none, (.v (.mv (.c .cap0)))⟩]) (.seq (.ops [⟨(some 3), none, (.v (.mv (.c (.int .i64 0))))⟩]) (.seq (.seq (.ops [⟨(some 9), none, (.v (.mv (.t 0)))⟩, ⟨(some 10), none, (.v (.len (.t 9)))⟩, ⟨(some 11), none, (.v (.mv (.c (.int .i64 0))))⟩]) (.block 0 (.loop a87_0))) (.seq (.ops [⟨(some 23), none, (.v (.mv (.t 3)))⟩, ⟨(some 24), none, (.call (.c (.fn 101 [])) [(.c .cap0), (.t 23)])⟩, ⟨(some 6), none, (.v (.mv (.t 24)))⟩]) (.seq (.seq (.ops [⟨(some 25), none, (.v (.mv (.t 0)))⟩, ⟨(some 26), none, (.v (.len (.t 25)))⟩, ⟨(some 27), none, (.v (.mv (.c (.int .i64 0))))⟩]) (.block 2 (.loop a87_1))) (.seq (.ops [⟨(some 35), none, (.v (.mv (.t 6)))⟩, ⟨(some 2), none, (.v (.mv (.t 35)))⟩]) .ret))))))
def r87 : List AI := [(.mv (.t 2))]
theorem f87 : Fn PP 87 1 a87 r87 := Fn.of (fn := Go.Proofs.Try.f87) (by kernel_rfl) (by kernel_rfl) (by kernel_rfl)
theorem p101 (b : Nat) (mem : Mem) (n : Nat) (hn : n ≤ 4194304) : CallW PP 101 [.cap0, .int .i64 n] mem fun r m => Keeps b mem m ∧ ((n = 0 ∧ r = .cap0) ∨ ∃ ver f, r = .sl (b + 22) ver 0 ∧ m (b + 22) = .row ver 35 1 n f) := by
  refine Fn.call fmix (g101 b) ?_
  unfold b101 q101
  simp -implicitDefEqProofs only [vqa, Nat.reduceEqDiff, Nat.reduceAdd, reduceIte, Nat.reduceLeDiff, Nat.reduceBEq, Nat.reduceLT, Nat.reduceSub, Int.reduceLT, Int.reduceLE, Int.reduceEq, Int.reduceToNat, Nat.reduceMul, eq_self, implies_true, forall_const]
  rw [wI (n := (0 : Int) - 0) (by omega) (by omega), wI (n := (n : Int) - (0 - 0)) (by omega) (by omega)]
  simp -implicitDefEqProofs only [vqa, Nat.reduceEqDiff, Nat.reduceAdd, reduceIte, Nat.reduceLeDiff, Nat.reduceBEq, Nat.reduceLT, Nat.reduceSub, Int.reduceLT, Int.reduceLE, Int.reduceEq, Int.reduceToNat, Nat.reduceMul, eq_self, implies_true, forall_const, Int.sub_zero]
  refine ⟨fun h => absurd h (by omega), fun _ => ⟨fun h => ?_, fun h => ?_⟩⟩
  · exact ⟨by omega, by omega, .inr ⟨_, _, rfl, rfl⟩⟩
  · exact .inl (by omega)

/-- The lists f 0 .. f (k-1), of n 0 .. n (k-1) truths. -/
theorem p87 (k : Nat) (n : Nat → Nat) (f : Nat → Nat → AV) (q : Nat → AV) (hq : ∀ i, i < k → q i = .fs (n i) (f i)) (hf : ∀ i, i < k → ∀ j, j < n i → (f i j).cells.length = 1 ∧ (f i j).cells.all AV.isCell = true) (hn : pre n k ≤ 4194304) (hk : k ≤ 1048576) :
    Pure PP 87 [.fs k q] fun r => ∃ g, r = .fs (pre n k) g ∧ ∀ i, i < pre n k → g i = cat n f k i := by
  refine Fn.pure fmix f87 ?_
  unfold a87 r87
  simp -implicitDefEqProofs only [vqa, Nat.reduceEqDiff, Nat.reduceAdd, reduceIte, Nat.reduceLeDiff, Nat.reduceBEq, Nat.reduceLT, Nat.reduceSub, Int.reduceLT, Int.reduceLE, Int.reduceEq, Int.reduceToNat, Nat.reduceMul, eq_self, implies_true, forall_const]
  refine vFor k (fun i e m => m = mem0 ∧ e 0 = .fs k q ∧ e 9 = .fs k q ∧ e 10 = .int .i64 k ∧ e 11 = .int .i64 i ∧ e 3 = .int .i64 (pre n i : Nat)) ?_ ?_ ?_
  · simp -implicitDefEqProofs only [vqa, Nat.reduceEqDiff, Nat.reduceAdd, reduceIte, Nat.reduceLeDiff, Nat.reduceBEq, Nat.reduceLT, Nat.reduceSub, Int.reduceLT, Int.reduceLE, Int.reduceEq, Int.reduceToNat, Nat.reduceMul, eq_self, implies_true, forall_const]
    rfl
  · rintro i e m hi hi' ⟨rfl, h0, h9, h10, h11, h3⟩
    have hle := pre_le n (i := i + 1) k hi
    have hp : pre n (i + 1) = pre n i + n i := rfl
    unfold a87_0
    simp -implicitDefEqProofs only [vqa, Nat.reduceEqDiff, Nat.reduceAdd, reduceIte, Nat.reduceLeDiff, Nat.reduceBEq, Nat.reduceLT, Nat.reduceSub, Int.reduceLT, Int.reduceLE, Int.reduceEq, Int.reduceToNat, Nat.reduceMul, eq_self, implies_true, forall_const, h0, h9, h10, h11, h3, hi', hq i hi]
    rw [wI (n := ((pre n i : Nat) : Int) + (n i : Nat)) (by omega) (by omega)]
    refine ⟨by omega, fun h => absurd h (by omega), fun _ => ⟨hi, wI (by omega) (by omega), by rw [hp]; rfl⟩⟩
  · rintro e m ⟨rfl, h0, h9, h10, h11, h3⟩
    unfold a87_0
    simp -implicitDefEqProofs only [vqa, Nat.reduceEqDiff, Nat.reduceAdd, reduceIte, Nat.reduceLeDiff, Nat.reduceBEq, Nat.reduceLT, Nat.reduceSub, Int.reduceLT, Int.reduceLE, Int.reduceEq, Int.reduceToNat, Nat.reduceMul, eq_self, implies_true, forall_const, h0, h9, h10, h11, h3]
    refine (p101 1000 mem0 (pre n k) hn).mono fun r m ⟨hk1, hr⟩ => ?_
    have hr' : (pre n k = 0 ∧ r = .cap0) ∨ ∃ ver f, r = .sl 1022 ver 0 ∧ m 1022 = .row ver 35 1 (pre n k) f := by
      rcases hr with h | ⟨ver, f, h1, h2⟩
      · exact .inl h
      · exact .inr ⟨ver, f, h1, h2⟩
    simp -implicitDefEqProofs only [vqa, Nat.reduceEqDiff, Nat.reduceAdd, reduceIte, Nat.reduceLeDiff, Nat.reduceBEq, Nat.reduceLT, Nat.reduceSub, Int.reduceLT, Int.reduceLE, Int.reduceEq, Int.reduceToNat, Nat.reduceMul, eq_self, implies_true, forall_const, h0]
    refine vFor k (fun i e m => e 25 = .fs k q ∧ e 26 = .int .i64 k ∧ e 27 = .int .i64 i ∧ ((pre n k = 0 ∧ e 6 = .cap0) ∨ ∃ ver n' g, e 6 = .sl 1022 ver (pre n i) ∧ (n' = pre n i ∨ (i = 0 ∧ n' = pre n k)) ∧ m 1022 = .row ver 35 1 n' g ∧ ∀ j, j < pre n i → g j = cat n f i j)) ?_ ?_ ?_
    · simp -implicitDefEqProofs only [vqa, Nat.reduceEqDiff, Nat.reduceAdd, reduceIte, Nat.reduceLeDiff, Nat.reduceBEq, Nat.reduceLT, Nat.reduceSub, Int.reduceLT, Int.reduceLE, Int.reduceEq, Int.reduceToNat, Nat.reduceMul, eq_self, implies_true, forall_const]
      rcases hr' with h | ⟨ver, f, h1, h2⟩
      · exact .inl h
      · exact .inr ⟨ver, _, f, h1, .inr rfl, h2, fun j hj => absurd hj (Nat.not_lt_zero _)⟩
    · rintro i e m hi hi' ⟨h25, h26, h27, hA⟩
      have hle := pre_le n (i := i + 1) k hi
      have hp : pre n (i + 1) = pre n i + n i := rfl
      unfold a87_1
      rcases hA with ⟨hz, h6⟩ | ⟨ver, n', g, h6, hn', hm, hg⟩
      · have hni : n i = 0 := by omega
        simp -implicitDefEqProofs only [vqa, Nat.reduceEqDiff, Nat.reduceAdd, reduceIte, Nat.reduceLeDiff, Nat.reduceBEq, Nat.reduceLT, Nat.reduceSub, Int.reduceLT, Int.reduceLE, Int.reduceEq, Int.reduceToNat, Nat.reduceMul, eq_self, implies_true, forall_const, h25, h26, h27, h6, hi', hq i hi, hni]
        exact ⟨by omega, hi, wI (by omega) (by omega), .inl hz⟩
      · simp -implicitDefEqProofs only [vqa, Nat.reduceEqDiff, Nat.reduceAdd, reduceIte, Nat.reduceLeDiff, Nat.reduceBEq, Nat.reduceLT, Nat.reduceSub, Int.reduceLT, Int.reduceLE, Int.reduceEq, Int.reduceToNat, Nat.reduceMul, eq_self, implies_true, forall_const, h25, h26, h27, h6, hm, hi', hq i hi]
        have hle0 := pre_le n (i := i) k (by omega)
        refine ⟨by omega, ⟨fun j hj => hf i hi j hj, by omega, by omega, by omega⟩, hi, wI (by omega) (by omega), .inr ⟨_, _, _, rfl, .inl rfl, rfl, fun j hj => ?_⟩⟩
        simp only [cat]
        by_cases h : j < pre n i
        · simp only [h, decide_true, cond_true, if_true]; exact hg j h
        · simp only [h, decide_false, cond_false, if_false]
    · rintro e m ⟨h25, h26, h27, hA⟩
      unfold a87_1
      rcases hA with ⟨hz, h6⟩ | ⟨ver, n', g, h6, hn', hm, hg⟩
      · simp -implicitDefEqProofs only [vqa, Nat.reduceEqDiff, Nat.reduceAdd, reduceIte, Nat.reduceLeDiff, Nat.reduceBEq, Nat.reduceLT, Nat.reduceSub, Int.reduceLT, Int.reduceLE, Int.reduceEq, Int.reduceToNat, Nat.reduceMul, eq_self, implies_true, forall_const, h25, h26, h27, h6]
        rw [hz]
        exact ⟨_, rfl, fun i hi => absurd hi (Nat.not_lt_zero _)⟩
      · simp -implicitDefEqProofs only [vqa, Nat.reduceEqDiff, Nat.reduceAdd, reduceIte, Nat.reduceLeDiff, Nat.reduceBEq, Nat.reduceLT, Nat.reduceSub, Int.reduceLT, Int.reduceLE, Int.reduceEq, Int.reduceToNat, Nat.reduceMul, eq_self, implies_true, forall_const, h25, h26, h27, h6, hm]
        have hn2 : n' = pre n k := by
          rcases hn' with h | ⟨h, h2⟩
          · exact h
          · exact h2
        subst hn2
        exact ⟨_, rfl, hg⟩
def a89 : AC := (.seq (.ops [⟨(some 2), none, (.v (.mv (.c (.int .i64 0))))⟩]) (.seq (.seq (.ops [⟨(some 3), none, (.v (.mv (.t 0)))⟩, ⟨(some 4), none, (.v (.bin .lss (.t 3) (.c (.int .i64 2))))⟩]) (.cond (.t 4) (.seq (.ops [⟨(some 2), none, (.v (.mv (.c (.int .i64 0))))⟩]) .ret) .skip)) (.seq (.ops [⟨(some 5), none, (.v (.mv (.t 0)))⟩, ⟨(some 6), none, (.v (.bin .quo (.t 5) (.c (.int .i64 2))))⟩, ⟨(some 7), none, (.v (.bin .add (.t 6) (.c (.int .i64 1))))⟩, ⟨(some 2), none, (.v (.mv (.t 7)))⟩]) .ret)))
def r89 : List AI := [(.mv (.t 2))]
theorem f89 : Fn PP 89 1 a89 r89 := Fn.of (fn := Go.Proofs.Try.f89) (by kernel_rfl) (by kernel_rfl) (by kernel_rfl)
def a68 : AC := (.seq (.ops [⟨(some 2), none, (.v (.mv (.c (.int .i64 0))))⟩]) (.seq (.seq (.ops [⟨(some 3), none, (.v (.mv (.t 0)))⟩, ⟨(some 4), none, (.v (.bin .lss (.t 3) (.c (.int .i64 2))))⟩]) (.cond (.t 4) (.seq (.ops [⟨(some 2), none, (.v (.mv (.c (.int .i64 0))))⟩]) .ret) .skip)) (.seq (.ops [⟨(some 5), none, (.v (.mv (.t 0)))⟩, ⟨(some 6), none, (.v (.bin .shr (.t 5) (.c (.int .u64 1))))⟩, ⟨(some 7), none, (.v (.bin .add (.t 6) (.c (.int .i64 1))))⟩, ⟨(some 2), none, (.v (.mv (.t 7)))⟩]) .ret)))
def r68 : List AI := [(.mv (.t 2))]
theorem f68 : Fn PP 68 1 a68 r68 := Fn.of (fn := Go.Proofs.Try.f68) (by kernel_rfl) (by kernel_rfl) (by kernel_rfl)
def b90 (b : Nat) : AC := (.seq (.ops [⟨(some 4), none, (.v (.mv (.c (.int .i64 0))))⟩]) (.seq (.seq (.ops [⟨(some 7), none, (.v (.mv (.t 0)))⟩, ⟨(some 8), none, (.v (.bin .gtr (.t 7) (.c (.int .i64 1))))⟩, ⟨(some 9), none, (.v (.mv (.t 8)))⟩, ⟨(some 10), (some (9, true)), (.v (.mv (.t 0)))⟩, ⟨(some 11), (some (9, true)), (.v (.bin .rem (.t 10) (.c (.int .i64 2))))⟩, ⟨(some 12), (some (9, true)), (.v (.bin .eql (.t 11) (.c (.int .i64 0))))⟩, ⟨(some 13), none, (.v (.pick (.t 9) (.t 12) (.c (.bool false))))⟩]) (.cond (.t 13) (.seq (.ops [⟨(some 14), none, (.v (.mv (.t 0)))⟩, ⟨(some 15), none, (.call (.c (.fn 89 [])) [(.t 14)])⟩, ⟨(some 4), none, (.v (.mv (.t 15)))⟩]) .ret) .skip)) (.seq (.seq (.ops [⟨(some 17), none, (.v (.load 1 false (.t 1)))⟩, ⟨(some 18), none, (.v (.mv (.t 0)))⟩, ⟨(some 19), none, (.v (.lku true (.int .i64) (some .i64) (.t 17) (.t 18)))⟩, ⟨(some 16), none, (.v (.mv (.t 19)))⟩, ⟨(some 20), none, (.v (.ext 0 (.t 16)))⟩, ⟨(some 21), none, (.v (.ext 1 (.t 16)))⟩, ⟨(some 5), none, (.v (.mv (.t 20)))⟩, ⟨(some 6), none, (.v (.mv (.t 21)))⟩]) (.seq (.ops [⟨(some 22), none, (.v (.mv (.t 6)))⟩]) (.cond (.t 22) (.seq (.ops [⟨(some 23), none, (.v (.mv (.t 5)))⟩, ⟨(some 4), none, (.v (.mv (.t 23)))⟩]) .ret) .skip))) (.seq (.any [⟨(some 24), none, (.v (.load 1 false (.t 1)))⟩, ⟨(some 25), none, (.v (.mv (.t 0)))⟩, ⟨(some 26), none, (.v (.load 5 true (.t 2)))⟩, ⟨(some 27), none, (.call (.c (.fn 91 [])) [(.t 26)])⟩, ⟨none, none, (.e (.mapup (.int .i64) (some .i64) (.t 24) (.t 25) (.t 27)))⟩] [[], [], [], [2], [0, 1, 3, 3, 0, 1, 2, 3]]) (.seq (.any [⟨(some 28), none, (.v (.fld 3 (.t 2)))⟩, ⟨(some 29), none, (.v (.load 1 false (.t 28)))⟩, ⟨(some 30), none, (.v (.mv (.t 0)))⟩, ⟨(some 31), none, (.call (.c (.fn 89 [])) [(.t 30)])⟩, ⟨(some 32), none, (.e (.lit (b + 32) 3 1 1 [(.int .i64 0)] [(0, (.t 31))]))⟩, ⟨(some 33), none, (.v (.build [(.int .i64 0), (.int .u64 0), .cap0] [(0, (1, (.c (.int .i64 (-1))))), (1, (1, (.c (.int .u64 1)))), (2, (1, (.t 32)))]))⟩, ⟨(some 34), none, (.e (.lit (b + 34) 127 3 1 [(.int .i64 0), (.int .u64 0), .cap0] [(0, (.t 33))]))⟩, ⟨(some 35), none, (.e (.app (b + 35) 127 3 40 (.t 29) (.t 34)))⟩, ⟨(some 36), none, (.v (.fld 3 (.t 2)))⟩, ⟨none, none, (.e (.store 1 (.t 36) (.t 35)))⟩] [[], [0], [], [2], [3], [4], [5], [1, 6, 3], [0, 1, 2, 3, 4, 5, 6, 7], [8, 7, 7, 0, 1, 2, 3, 4, 5, 6, 7]]) (.seq (.ops [⟨(some 37), none, (.v (.load 1 false (.t 1)))⟩, ⟨(some 38), none, (.v (.mv (.t 0)))⟩, ⟨(some 39), none, (.v (.lku false (.int .i64) (some .i64) (.t 37) (.t 38)))⟩, ⟨(some 4), none, (.v (.mv (.t 39)))⟩]) .ret))))))
def q90 : List AI := [(.mv (.t 4))]
theorem g90 (b : Nat) : Fn PP 90 3 (b90 b) q90 := Fn.ofB b (fn := Go.Proofs.Try.f90) (by kernel_rfl) (by kernel_rfl) (by kernel_rfl)
def b69 (b : Nat) : AC := (.seq (.ops [⟨(some 6), none, (.v (.mv (.c (.int .i64 0))))⟩]) (.seq (.seq (.ops [⟨(some 8), none, (.v (.mv (.t 0)))⟩, ⟨(some 9), none, (.v (.bin .lss (.t 8) (.c (.int .i64 2))))⟩]) (.cond (.t 9) (.seq (.ops [⟨(some 10), none, (.v (.mv (.t 0)))⟩, ⟨(some 6), none, (.v (.mv (.t 10)))⟩]) .ret) .skip)) (.seq (.seq (.ops [⟨(some 11), none, (.v (.mv (.t 0)))⟩, ⟨(some 12), none, (.v (.bin .and (.t 11) (.c (.int .i64 1))))⟩, ⟨(some 13), none, (.v (.bin .eql (.t 12) (.c (.int .i64 0))))⟩]) (.cond (.t 13) (.seq (.ops [⟨(some 14), none, (.v (.load 1 false (.t 1)))⟩, ⟨(some 15), none, (.v (.mv (.t 0)))⟩, ⟨(some 16), none, (.call (.t 14) [(.t 15)])⟩, ⟨(some 6), none, (.v (.mv (.t 16)))⟩]) .ret) .skip)) (.seq (.ops [⟨(some 17), none, (.v (.load 1 false (.t 2)))⟩, ⟨(some 18), none, (.v (.mv (.t 0)))⟩, ⟨(some 19), none, (.call (.c (.fn 67 [])) [(.t 17), (.t 18)])⟩, ⟨(some 7), none, (.v (.mv (.t 19)))⟩]) (.seq (.seq (.ops [⟨(some 20), none, (.v (.mv (.t 7)))⟩, ⟨(some 21), none, (.v (.bin .lss (.t 20) (.c (.int .i64 0))))⟩]) (.cond (.t 21) (.seq (.ops [⟨(some 22), none, (.v (.load 1 false (.t 2)))⟩, ⟨(some 23), none, (.v (.len (.t 22)))⟩, ⟨(some 7), none, (.v (.mv (.t 23)))⟩]) (.seq (.ops [⟨(some 24), none, (.v (.load 1 false (.t 2)))⟩, ⟨(some 25), none, (.v (.mv (.t 0)))⟩, ⟨(some 26), none, (.e (.lit (b + 26) 35 1 1 [(.int .i64 0)] [(0, (.t 25))]))⟩, ⟨(some 27), none, (.e (.app (b + 27) 35 1 8 (.t 24) (.t 26)))⟩, ⟨none, none, (.e (.store 1 (.t 2) (.t 27)))⟩]) (.any [⟨(some 28), none, (.v (.fld 3 (.t 3)))⟩, ⟨(some 29), none, (.v (.load 1 false (.t 28)))⟩, ⟨(some 30), none, (.v (.load 1 false (.t 1)))⟩, ⟨(some 31), none, (.v (.mv (.t 0)))⟩, ⟨(some 32), none, (.call (.t 30) [(.t 31)])⟩, ⟨(some 33), none, (.e (.lit (b + 33) 3 1 1 [(.int .i64 0)] [(0, (.t 32))]))⟩, ⟨(some 34), none, (.v (.build [(.int .i64 0), (.int .u64 0), .cap0] [(0, (1, (.c (.int .i64 (-1))))), (1, (1, (.c (.int .u64 1)))), (2, (1, (.t 33)))]))⟩, ⟨(some 35), none, (.e (.lit (b + 35) 127 3 1 [(.int .i64 0), (.int .u64 0), .cap0] [(0, (.t 34))]))⟩, ⟨(some 36), none, (.e (.app (b + 36) 127 3 40 (.t 29) (.t 35)))⟩, ⟨(some 37), none, (.v (.fld 3 (.t 3)))⟩, ⟨none, none, (.e (.store 1 (.t 37) (.t 36)))⟩] [[], [0], [], [], [2, 3], [4], [5], [6], [1, 7, 4], [0, 1, 2, 3, 4, 5, 6, 7, 8], [9, 8, 8, 0, 1, 2, 3, 4, 5, 6, 7, 8]]))) .skip)) (.seq (.ops [⟨(some 38), none, (.v (.fld 0 (.t 4)))⟩, ⟨(some 39), none, (.v (.load 1 false (.t 38)))⟩, ⟨(some 40), none, (.v (.len (.t 39)))⟩, ⟨(some 41), none, (.v (.bin .add (.c (.int .i64 2)) (.t 40)))⟩, ⟨(some 42), none, (.v (.fld 2 (.t 4)))⟩, ⟨(some 43), none, (.v (.load 1 false (.t 42)))⟩, ⟨(some 44), none, (.v (.len (.t 43)))⟩, ⟨(some 45), none, (.v (.bin .add (.t 41) (.t 44)))⟩, ⟨(some 46), none, (.v (.fld 3 (.t 4)))⟩, ⟨(some 47), none, (.v (.load 1 false (.t 46)))⟩, ⟨(some 48), none, (.v (.len (.t 47)))⟩, ⟨(some 49), none, (.v (.bin .add (.t 45) (.t 48)))⟩, ⟨(some 50), none, (.v (.mv (.t 7)))⟩, ⟨(some 51), none, (.v (.bin .add (.t 49) (.t 50)))⟩, ⟨(some 6), none, (.v (.mv (.t 51)))⟩]) .ret))))))
def q69 : List AI := [(.mv (.t 6))]
theorem g69 (b : Nat) : Fn PP 69 5 (b69 b) q69 := Fn.ofB b (fn := Go.Proofs.Try.f69) (by kernel_rfl) (by kernel_rfl) (by kernel_rfl)
theorem p94n {ni no nf ng nk : Nat} (f0 f1 f2 f3 f4 : Nat → AV) (h1 : ni ≤ 1048576) (h2 : nf ≤ 1048576) : Pure PP 94 [.agg [.fs ni f0, .fs no f1, .fs nf f2, .fs ng f3, .fs nk f4]] fun r => r = .int .i64 (2 + ni + nf : Nat) := by
  refine Fn.pure fmix f94 ?_
  unfold a94 r94
  simp -implicitDefEqProofs only [vqa, Nat.reduceEqDiff, Nat.reduceAdd, reduceIte, Nat.reduceLeDiff, Nat.reduceBEq, Nat.reduceLT, Nat.reduceSub, Int.reduceLT, Int.reduceLE, Int.reduceEq, Int.reduceToNat, Nat.reduceMul, eq_self, implies_true, forall_const]
  rw [wI (n := 2 + (ni : Int)) (by omega) (by omega), wI (by omega) (by omega)]
  congr 1
theorem p91n {ni no nf ng nk : Nat} (f0 f1 f2 f3 f4 : Nat → AV) (h1 : ni ≤ 1048576) (h2 : nf ≤ 1048576) (h3 : ng ≤ 1048576) : Pure PP 91 [.agg [.fs ni f0, .fs no f1, .fs nf f2, .fs ng f3, .fs nk f4]] fun r => r = .int .i64 (2 + ni + nf + ng : Nat) := by
  refine Fn.pure fmix f91 ?_
  unfold a91 r91
  simp -implicitDefEqProofs only [vqa, Nat.reduceEqDiff, Nat.reduceAdd, reduceIte, Nat.reduceLeDiff, Nat.reduceBEq, Nat.reduceLT, Nat.reduceSub, Int.reduceLT, Int.reduceLE, Int.reduceEq, Int.reduceToNat, Nat.reduceMul, eq_self, implies_true, forall_const]
  refine vAny [0, 2, 3, 4, 1, 5, 6] 7 allL (by kernel_rfl) (by kernel_rfl) ?_
  simp -implicitDefEqProofs only [vqa, Nat.reduceEqDiff, Nat.reduceAdd, reduceIte, Nat.reduceLeDiff, Nat.reduceBEq, Nat.reduceLT, Nat.reduceSub, Int.reduceLT, Int.reduceLE, Int.reduceEq, Int.reduceToNat, Nat.reduceMul, eq_self, implies_true, forall_const]
  refine CallW.sc (p94n f0 f1 f2 f3 f4 h1 h2) rfl ⟨⟨trivial, trivial, trivial, trivial, trivial, trivial⟩, trivial⟩ fun r hr => ⟨by subst hr; rfl, ?_⟩
  subst hr
  simp -implicitDefEqProofs only [vqa, Nat.reduceEqDiff, Nat.reduceAdd, reduceIte, Nat.reduceLeDiff, Nat.reduceBEq, Nat.reduceLT, Nat.reduceSub, Int.reduceLT, Int.reduceLE, Int.reduceEq, Int.reduceToNat, Nat.reduceMul, eq_self, implies_true, forall_const]
  rw [wI (by omega) (by omega)]
  congr 1
theorem p89 (l : Int) (h0 : 0 ≤ l) (h1 : l ≤ 4611686018427387904) : Pure PP 89 [.int .i64 l] fun r => r = .int .i64 (netL l) := by
  refine Fn.pure fmix f89 ?_
  unfold a89 r89
  simp -implicitDefEqProofs only [vqa, Nat.reduceEqDiff, Nat.reduceAdd, reduceIte, Nat.reduceLeDiff, Nat.reduceBEq, Nat.reduceLT, Nat.reduceSub, Int.reduceLT, Int.reduceLE, Int.reduceEq, Int.reduceToNat, Nat.reduceMul, eq_self, implies_true, forall_const]
  refine ⟨fun h => ?_, fun h => ?_⟩
  · unfold netL; rw [if_pos h]
  · have e : IntKind.i64.wrap (l.tdiv 2) = l / 2 := by
      rw [Int.tdiv_eq_ediv_of_nonneg h0, wI (by omega) (by omega)]
    rw [e, wI (by omega) (by omega)]
    unfold netL; rw [if_neg h]
    exact ⟨by decide, rfl⟩
theorem p68 (l : Int) (h0 : 0 ≤ l) (h1 : l ≤ 4611686018427387904) : Pure PP 68 [.int .i64 l] fun r => r = .int .i64 (netL l) := by
  refine Fn.pure fmix f68 ?_
  unfold a68 r68
  simp -implicitDefEqProofs only [vqa, Nat.reduceEqDiff, Nat.reduceAdd, reduceIte, Nat.reduceLeDiff, Nat.reduceBEq, Nat.reduceLT, Nat.reduceSub, Int.reduceLT, Int.reduceLE, Int.reduceEq, Int.reduceToNat, Nat.reduceMul, eq_self, implies_true, forall_const]
  refine ⟨fun h => ?_, fun h => ?_⟩
  · unfold netL; rw [if_pos h]
  · have e : l.fdiv (2 ^ min 1 64) = l / 2 := by
      rw [show (2 : Int) ^ min 1 64 = 2 from rfl, Int.fdiv_eq_ediv_of_nonneg _ (by decide)]
    rw [e, wI (by omega) (by omega)]
    unfold netL; rw [if_neg h]
theorem idx_at : ∀ (T : List Int) (i : Nat) (l : Int), i < T.length → T.getD i 0 = l → (∀ j, j < i → T.getD j 0 ≠ l) → T.idxOf l = i
  | [], i, l, h, _, _ => absurd h (Nat.not_lt_zero _)
  | a :: T, 0, l, _, h, _ => by
    have h' : a = l := h
    subst h'
    exact List.idxOf_cons_self
  | a :: T, i + 1, l, hi, h, hj => by
    have h0 : a ≠ l := hj 0 (Nat.succ_pos _)
    rw [List.idxOf_cons, show (a == l) = false from beq_eq_false_iff_ne.2 h0, cond_false]
    exact congrArg Nat.succ (idx_at T i l (by simpa using hi) h fun j hj' => hj (j + 1) (by omega))
theorem p67 (T : List Int) (f : Nat → AV) (hf : ∀ i, i < T.length → f i = .int .i64 (T.getD i 0)) (l : Int) (hn : T.length ≤ 16777216) : Pure PP 67 [.fs T.length f, .int .i64 l] fun r => r = .int .i64 (if l ∈ T then (T.idxOf l : Nat) else -1) := by
  refine Fn.pure fmix f67 ?_
  unfold a67 r67
  simp -implicitDefEqProofs only [vqa, Nat.reduceEqDiff, Nat.reduceAdd, reduceIte, Nat.reduceLeDiff, Nat.reduceBEq, Nat.reduceLT, Nat.reduceSub, Int.reduceLT, Int.reduceLE, Int.reduceEq, Int.reduceToNat, Nat.reduceMul, eq_self, implies_true, forall_const]
  refine vFor T.length (fun i e m => e 0 = .fs T.length f ∧ e 1 = .int .i64 l ∧ e 7 = .int .i64 T.length ∧ e 8 = .int .i64 i ∧ ∀ j, j < i → T.getD j 0 ≠ l) ?_ ?_ ?_
  · simp -implicitDefEqProofs only [vqa, Nat.reduceEqDiff, Nat.reduceAdd, reduceIte, Nat.reduceLeDiff, Nat.reduceBEq, Nat.reduceLT, Nat.reduceSub, Int.reduceLT, Int.reduceLE, Int.reduceEq, Int.reduceToNat, Nat.reduceMul, eq_self, implies_true, forall_const]
  · rintro i e m hi hi' ⟨h0, h1, h7, h8, hs⟩
    unfold a67_0
    simp -implicitDefEqProofs only [vqa, Nat.reduceEqDiff, Nat.reduceAdd, reduceIte, Nat.reduceLeDiff, Nat.reduceBEq, Nat.reduceLT, Nat.reduceSub, Int.reduceLT, Int.reduceLE, Int.reduceEq, Int.reduceToNat, Nat.reduceMul, eq_self, implies_true, forall_const, h0, h1, h7, h8, hi', hf i hi]
    refine ⟨by omega, fun h => ?_, fun h => ⟨hi, wI (by omega) (by omega), fun j hj => ?_⟩⟩
    · have hm : l ∈ T := by
        rw [h, List.getD_eq_getElem?_getD, List.getElem?_eq_getElem hi]
        exact List.getElem_mem hi
      rw [if_pos hm, idx_at T i l hi h.symm hs]
    · by_cases e : j = i
      · rw [e]; exact fun k => h k.symm
      · exact hs j (by omega)
  · rintro e m ⟨h0, h1, h7, h8, hs⟩
    unfold a67_0
    simp -implicitDefEqProofs only [vqa, Nat.reduceEqDiff, Nat.reduceAdd, reduceIte, Nat.reduceLeDiff, Nat.reduceBEq, Nat.reduceLT, Nat.reduceSub, Int.reduceLT, Int.reduceLE, Int.reduceEq, Int.reduceToNat, Nat.reduceMul, eq_self, implies_true, forall_const, h0, h1, h7, h8]
    rw [if_neg]
    intro hm
    obtain ⟨j, hj, e⟩ := List.getElem_of_mem hm
    exact hs j hj (by rw [List.getD_eq_getElem?_getD, List.getElem?_eq_getElem hj]; exact e)

/-- What the map tells. -/
def MapInv (b : Nat) (T : List Int) (p : Value → Bool) (g : Value → Int) : Prop := ∀ l : Int, p (.int .i64 l) = decide (l = 0 ∨ l = 1 ∨ l ∈ T) ∧ (l = 0 → g (.int .i64 l) = 0) ∧ (l = 1 → g (.int .i64 l) = 1) ∧ (l ∈ T → g (.int .i64 l) = (b : Int) + (T.idxOf l : Nat))
def gateP (G : Gra) (T : List Int) (i : Nat) (a : AV) : Prop := GateA a (gtW G T i)

theorem MapInv.step {b : Nat} {T : List Int} {p : Value → Bool} {g : Value → Int} {l c : Int} (h : MapInv b T p g) (h2 : 2 ≤ l) (hn : l ∉ T) (hc : c = (b : Int) + (T.length : Nat)) : MapInv b (T ++ [l]) (fun q => bif keyEq q (Value.int IntKind.i64 l) then true else p q) (fun q => bif keyEq q (Value.int IntKind.i64 l) then c else g q) := by
  intro k
  obtain ⟨a1, a2, a3, a4⟩ := h k
  by_cases e : k = l
  · subst e
    have kk : keyEq (Value.int IntKind.i64 k) (Value.int IntKind.i64 k) = true := by simp [keyEq_int]
    simp only [kk, cond_true]
    refine ⟨by simp, fun h => by omega, fun h => by omega, fun _ => ?_⟩
    rw [List.idxOf_append, if_neg hn, hc]
    simp
  · have kk : keyEq (Value.int IntKind.i64 k) (Value.int IntKind.i64 l) = false := by simp [keyEq_int, e]
    simp only [kk, cond_false]
    refine ⟨by rw [a1]; simp [e], a2, a3, fun hm => ?_⟩
    have hm' : k ∈ T := by simpa [e] using hm
    rw [List.idxOf_append, if_pos hm']
    exact a4 hm'
theorem gateP_new {G : Gra} {T : List Int} {l : Int} {f : Nat → AV} (hf : f 0 = .int .i64 (netL l)) : gateP G (T ++ [l]) (G.na + T.length) (.agg [.int .i64 (-1), .int .u64 1, .fs 1 f]) := by
  have e : gtW G (T ++ [l]) (G.na + T.length) = ⟨-1, 1, 1, fun _ => netL l⟩ := by
    unfold gtW
    rw [if_neg (by omega)]
    simp
  unfold gateP
  rw [e]
  refine ⟨f, rfl, fun i hi => ?_⟩
  obtain rfl : i = 0 := Nat.lt_one_iff.1 hi
  exact hf
theorem gateP_old {G : Gra} {T : List Int} {l : Int} {i : Nat} {a : AV} (hi : i < G.na + T.length) (h : gateP G T i a) : gateP G (T ++ [l]) i a := by
  unfold gateP at *
  rw [gtW_app hi]; exact h
theorem getL_new {b : Nat} {T : List Int} {l : Int} (h1 : ¬ l < 2) (h2 : ¬ l % 2 = 0) (h3 : l ∉ T) : getL b (T ++ [l]) l = (b : Int) + (T.length : Nat) := by
  unfold getL
  rw [if_neg h1, if_neg h2, List.idxOf_append, if_neg h3]
  simp
theorem p90 {G : Gra} (gd : G.Good) {T : List Int} (h2 : ∀ t, t ∈ T → 2 ≤ t) (hT : T.length ≤ 4096) (l : Int) (h0 : 0 ≤ l) (h1 : l ≤ 4611686018427387904) (b : Nat) {mem : Mem} {om vm oo vo id ver s : Nat} {p : Value → Bool} {g : Value → Int} {x0 x1 x2 x3 x4 : AV}
    (hom : om < b) (hoo : oo < b) (hid : id < b) (n1 : om ≠ oo) (n2 : om ≠ id) (n3 : oo ≠ id) (hs : (s < b ∧ s ≠ om ∧ s ≠ oo ∧ s ≠ id ∧ x3 ≠ .cap0) ∨ (s = b + 35 ∧ x3 = .cap0))
    (m1 : mem om = .var vm [.mp id ver]) (m2 : mem id = .map ver (.int .i64) (some .i64) p g) (m3 : mem oo = .var vo [x0, x1, x2, x3, x4])
    {f0 f1 f2 f4 : Nat → AV} {no nk : Nat} (r0 : rs0 mem x0 = (True, .fs G.ni f0)) (r1 : rs0 mem x1 = (True, .fs no f1)) (r2 : rs0 mem x2 = (True, .fs G.nr f2)) (r4 : rs0 mem x4 = (True, .fs nk f4))
    (hM : MapInv G.nb T p g) (hA : AccP [s] 127 3 (G.na + T.length) (gateP G T) x3 mem) :
    CallW PP 90 [.int .i64 l, .ptr om vm 0, .ptr oo vo 0] mem fun v m => v = .int .i64 (getL G.nb (turnS T l) l) ∧ ∃ p' g' x3', m om = mem om ∧ m id = .map ver (.int .i64) (some .i64) p' g' ∧ MapInv G.nb (turnS T l) p' g' ∧ m oo = .var vo [x0, x1, x2, x3', x4] ∧ AccP [s] 127 3 (G.na + (turnS T l).length) (gateP G (turnS T l)) x3' m ∧ ∀ i, i < b → i ≠ id → i ≠ oo → i ≠ s → m i = mem i := by
  refine Fn.call fmix (g90 b) ?_
  unfold b90 q90
  have hml := hM l
  have ht : l.tmod 2 = l % 2 := Int.tmod_eq_emod_of_nonneg h0
  by_cases c1 : 1 < l
  · by_cases c2 : l % 2 = 0
    · simp -implicitDefEqProofs only [vqa, Nat.reduceEqDiff, Nat.reduceAdd, reduceIte, Nat.reduceLeDiff, Nat.reduceBEq, Nat.reduceLT, Nat.reduceSub, Int.reduceLT, Int.reduceLE, Int.reduceEq, Int.reduceToNat, Nat.reduceMul, eq_self, implies_true, forall_const, c1, ht, c2]
      refine ⟨by decide, ?_⟩
      refine CallW.sc (p89 l h0 h1) rfl ⟨trivial, trivial⟩ fun r hr => ⟨by subst hr; rfl, ?_⟩
      subst hr
      have eT : turnS T l = T := if_pos (.inr (.inl c2))
      have eg : getL G.nb T l = netL l := by unfold getL; rw [if_neg (by omega), if_pos c2]
      rw [eT, eg]
      simp -implicitDefEqProofs only [vqa, Nat.reduceEqDiff, Nat.reduceAdd, reduceIte, Nat.reduceLeDiff, Nat.reduceBEq, Nat.reduceLT, Nat.reduceSub, Int.reduceLT, Int.reduceLE, Int.reduceEq, Int.reduceToNat, Nat.reduceMul, eq_self, implies_true, forall_const]
      exact ⟨p, g, x3, m2, hM, m3, hA⟩
    · by_cases c3 : l ∈ T
      · have hp : p (.int .i64 l) = true := by rw [hml.1]; exact decide_eq_true (.inr (.inr c3))
        simp -implicitDefEqProofs only [vqa, Nat.reduceEqDiff, Nat.reduceAdd, reduceIte, Nat.reduceLeDiff, Nat.reduceBEq, Nat.reduceLT, Nat.reduceSub, Int.reduceLT, Int.reduceLE, Int.reduceEq, Int.reduceToNat, Nat.reduceMul, eq_self, implies_true, forall_const, c1, ht, c2, m1, m2, hp]
        have eT : turnS T l = T := if_pos (.inr (.inr c3))
        rw [eT]
        refine ⟨by decide, ?_, p, g, x3, rfl, hM, m3, hA⟩
        rw [hml.2.2.2 c3]
        unfold getL; rw [if_neg (by omega), if_neg c2]
      · have hp : p (.int .i64 l) = false := by rw [hml.1]; exact decide_eq_false (by simp only [not_or]; exact ⟨by omega, by omega, c3⟩)
        simp -implicitDefEqProofs only [vqa, Nat.reduceEqDiff, Nat.reduceAdd, reduceIte, Nat.reduceLeDiff, Nat.reduceBEq, Nat.reduceLT, Nat.reduceSub, Int.reduceLT, Int.reduceLE, Int.reduceEq, Int.reduceToNat, Nat.reduceMul, eq_self, implies_true, forall_const, c1, ht, c2, m1, m2, hp]
        refine ⟨by decide, ?_⟩
        have eT : turnS T l = T ++ [l] := if_neg (by simp only [not_or]; exact ⟨by omega, c2, c3⟩)
        obtain ⟨f3, r3, _⟩ := hA.rs0
        have g1 := gd.ni; have g2 := gd.nr; have g3 := gd.na
        refine vAny [0, 1, 2, 3, 4] 5 (twoL om oo) (by kernel_rfl) (by kernel_rfl) ?_
        simp -implicitDefEqProofs only [vqa, Nat.reduceEqDiff, Nat.reduceAdd, reduceIte, Nat.reduceLeDiff, Nat.reduceBEq, Nat.reduceLT, Nat.reduceSub, Int.reduceLT, Int.reduceLE, Int.reduceEq, Int.reduceToNat, Nat.reduceMul, eq_self, implies_true, forall_const, m1, m2, m3, restr_two1, restr_two2, agree_two]
        refine CallW.sc (p91n (ni := G.ni) (nf := G.nr) (ng := G.na + T.length) (nk := nk) (no := no) f0 f1 f2 f3 f4 (by omega) (by omega) (by omega)) ?_ ?_ fun r hr => ⟨by subst hr; rfl, ?_⟩
        · simp only [rsC, rs2, r0, r1, r2, r3, r4]
        · simp only [rsC, rs2, r0, r1, r2, r3, r4, and_self]
        subst hr
        simp -implicitDefEqProofs only [vqa, Nat.reduceEqDiff, Nat.reduceAdd, reduceIte, Nat.reduceLeDiff, Nat.reduceBEq, Nat.reduceLT, Nat.reduceSub, Int.reduceLT, Int.reduceLE, Int.reduceEq, Int.reduceToNat, Nat.reduceMul, eq_self, implies_true, forall_const, m1, m2, m3, agree_two, n2, n3]
        refine vAny [0, 1, 2, 3, 4, 5, 6, 7, 8, 9] 9 (oneL oo) (by kernel_rfl) (by kernel_rfl) ?_
        simp -implicitDefEqProofs only [vqa, Nat.reduceEqDiff, Nat.reduceAdd, reduceIte, Nat.reduceLeDiff, Nat.reduceBEq, Nat.reduceLT, Nat.reduceSub, Int.reduceLT, Int.reduceLE, Int.reduceEq, Int.reduceToNat, Nat.reduceMul, eq_self, implies_true, forall_const, m1, m2, m3, n3]
        generalize hmm : Mem.set id (.map ver (.int .i64) (some .i64) (fun q => bif keyEq q (Value.int IntKind.i64 l) then true else p q) fun q => bif keyEq q (Value.int IntKind.i64 l) then ((2 + G.ni + G.nr + (G.na + T.length) : Nat) : Int) else g q) mem = mm
        refine CallW.sc (p89 l h0 h1) rfl ⟨trivial, trivial⟩ fun r hr => ⟨by subst hr; rfl, ?_⟩
        subst hr
        have mo : mm oo = .var vo [x0, x1, x2, x3, x4] := by rw [← hmm, set_ne n3]; exact m3
        have mi : mm id = .map ver (.int .i64) (some .i64) (fun q => bif keyEq q (Value.int IntKind.i64 l) then true else p q) fun q => bif keyEq q (Value.int IntKind.i64 l) then ((2 + G.ni + G.nr + (G.na + T.length) : Nat) : Int) else g q := by rw [← hmm, set_same]
        have mo2 : mm om = .var vm [.mp id ver] := by rw [← hmm, set_ne n2]; exact m1
        have mfr : ∀ i, i ≠ id → mm i = mem i := fun i hi => by rw [← hmm, set_ne hi]
        have qo : restr (oneL oo) mm oo = mm oo := restr_one
        have z1 := bNe hoo; have z2 := bNe hom; have z3 := bNe hid
        have z1' := bNe' hoo; have z2' := bNe' hom; have z3' := bNe' hid
        have kk : keyEq (Value.int IntKind.i64 l) (Value.int IntKind.i64 l) = true := by simp [keyEq_int]
        rcases hs with ⟨hsb, s1, s2, s3, s4⟩ | ⟨rfl, rfl⟩
        · obtain ⟨_, hx⟩ | ⟨s', sv, gg, hs', rfl, hm, hg, hgn⟩ := hA
          · exact absurd hx s4
          · obtain rfl : s' = s := by simpa using hs'
            have z4 := bNe hsb; have z4' := bNe' hsb
            have ms := (mfr s' s3).trans hm
            simp -implicitDefEqProofs only [vqa, Nat.reduceEqDiff, Nat.reduceAdd, reduceIte, Nat.reduceLeDiff, Nat.reduceBEq, Nat.reduceLT, Nat.reduceSub, Int.reduceLT, Int.reduceLE, Int.reduceEq, Int.reduceToNat, Nat.reduceMul, eq_self, implies_true, forall_const, mo, mi, mo2, ms, qo, z1, z2, z3, z4, z1', z2', z3', z4', s1, s2, s3, Ne.symm s1, Ne.symm s2, Ne.symm s3, n1, n2, n3, Ne.symm n1, Ne.symm n2, Ne.symm n3]
            rw [eT, getL_new (by omega) c2 c3]
            refine ⟨⟨by omega, by omega⟩, by unfold Gra.nb; omega, _, _, _, rfl, hM.step (by omega) c3 (by unfold Gra.nb; omega), rfl, ?_, fun i hi h1 h2 h3 => ?_⟩
            · rw [List.length_append]
              refine AccP.put (AccP.push (by simp) (fun j hj => gateP_old hj (hg j hj)) (gateP_new rfl)) ?_
              simp; exact Ne.symm s2
            · have q1 : (i = b + 34) = False := eq_false (by omega)
              have q2 : (i = b + 32) = False := eq_false (by omega)
              simp only [h2, h3, q1, q2, if_false]
              exact mfr i h1
        · obtain ⟨hz, _⟩ | ⟨s', sv, gg, hs', hx, _⟩ := hA
          · have hT0 : T.length = 0 := by omega
            have hna : G.na = 0 := by omega
            simp -implicitDefEqProofs only [vqa, Nat.reduceEqDiff, Nat.reduceAdd, reduceIte, Nat.reduceLeDiff, Nat.reduceBEq, Nat.reduceLT, Nat.reduceSub, Int.reduceLT, Int.reduceLE, Int.reduceEq, Int.reduceToNat, Nat.reduceMul, eq_self, implies_true, forall_const, mo, mi, mo2, qo, z1, z2, z3, z1', z2', z3', n1, n2, n3, Ne.symm n1, Ne.symm n2, Ne.symm n3]
            rw [eT, getL_new (by omega) c2 c3]
            refine ⟨by unfold Gra.nb; omega, _, _, _, rfl, hM.step (by omega) c3 (by unfold Gra.nb; omega), rfl, ?_, fun i hi h1 h2 h3 => ?_⟩
            · rw [List.length_append]
              have e0 : G.na + (T.length + [l].length) = 1 := by simp; omega
              rw [e0]
              refine AccP.put (AccP.first (by simp) ?_) ?_
              · have := gateP_new (G := G) (T := T) (l := l) (f := fun i => [AV.int IntKind.i64 (netL l)].getD i AV.undef) rfl
                rwa [hz] at this
              · simp; exact fun h => by omega
            · have q1 : (i = b + 34) = False := eq_false (by omega)
              have q2 : (i = b + 32) = False := eq_false (by omega)
              simp only [h2, h3, q1, q2, if_false]
              exact mfr i h1
          · cases hx
  · have c1' : ¬ (1 < l) := c1
    have hp : p (.int .i64 l) = true := by rw [hml.1]; exact decide_eq_true (by omega)
    simp -implicitDefEqProofs only [vqa, Nat.reduceEqDiff, Nat.reduceAdd, reduceIte, Nat.reduceLeDiff, Nat.reduceBEq, Nat.reduceLT, Nat.reduceSub, Int.reduceLT, Int.reduceLE, Int.reduceEq, Int.reduceToNat, Nat.reduceMul, eq_self, implies_true, forall_const, c1, m1, m2, hp]
    have eT : turnS T l = T := if_pos (.inl (by omega))
    have eg : getL G.nb T l = l := by unfold getL; rw [if_pos (by omega)]
    rw [eT, eg]
    refine ⟨?_, p, g, x3, rfl, hM, m3, hA⟩
    rcases (by omega : l = 0 ∨ l = 1) with h | h
    · rw [hml.2.1 h, h]
    · rw [hml.2.2.1 h, h]
def intP (T : List Int) (i : Nat) (a : AV) : Prop := a = .int .i64 (T.getD i 0)
theorem intP_old {T : List Int} {l : Int} {i : Nat} {a : AV} (hi : i < T.length) (h : intP T i a) : intP (T ++ [l]) i a := by
  unfold intP at *
  rw [h, List.getD_eq_getElem?_getD, List.getD_eq_getElem?_getD, List.getElem?_append_left hi]
theorem intP_new {T : List Int} {l : Int} : intP (T ++ [l]) T.length (.int .i64 l) := by
  unfold intP
  rw [List.getD_eq_getElem?_getD, List.getElem?_append_right (Nat.le_refl _)]
  simp

theorem p69 {G : Gra} {cs : List AV} (hG : GraC cs G) (gd : G.Good) {T : List Int} (h2 : ∀ t, t ∈ T → 2 ≤ t) (hT : T.length ≤ 4096) (l : Int) (h0 : 0 ≤ l) (h1 : l ≤ 4611686018427387904) (b : Nat) {mem : Mem} {on vn ot vt oo vo og vg s st : Nat} {tv x0 x1 x2 x3 x4 : AV}
    (hon : on < b) (hot : ot < b) (hoo : oo < b) (hog : og < b) (n1 : on ≠ ot) (n2 : on ≠ oo) (n3 : ot ≠ oo) (n4 : og ≠ ot) (n5 : og ≠ oo)
    (hs : (s < b ∧ s ≠ on ∧ s ≠ ot ∧ s ≠ oo ∧ s ≠ og ∧ x3 ≠ .cap0) ∨ (s = b + 36 ∧ x3 = .cap0)) (hst : (st < b ∧ st ≠ on ∧ st ≠ ot ∧ st ≠ oo ∧ st ≠ og ∧ st ≠ s ∧ tv ≠ .cap0 ∧ 0 < T.length) ∨ (st = b + 27 ∧ tv = .cap0))
    (m1 : mem on = .var vn [.fn 68 []]) (m2 : mem ot = .var vt [tv]) (m3 : mem oo = .var vo [x0, x1, x2, x3, x4]) (m4 : mem og = .var vg cs)
    (hU : AccP [st] 35 1 T.length (intP T) tv mem) (hA : AccP [s] 127 3 (G.na + T.length) (gateP G T) x3 mem) :
    CallW PP 69 [.int .i64 l, .ptr on vn 0, .ptr ot vt 0, .ptr oo vo 0, .ptr og vg 0] mem fun v m => v = .int .i64 (getL G.nb (turnS T l) l) ∧ ∃ tv' x3', m ot = .var vt [tv'] ∧ AccP [st] 35 1 (turnS T l).length (intP (turnS T l)) tv' m ∧ m oo = .var vo [x0, x1, x2, x3', x4] ∧ AccP [s] 127 3 (G.na + (turnS T l).length) (gateP G (turnS T l)) x3' m ∧ ∀ i, i < b → i ≠ ot → i ≠ oo → i ≠ s → i ≠ st → m i = mem i := by
  obtain ⟨k0, k1, k2, k3, k4, rfl, _⟩ := hG
  have g1 := gd.ni; have g2 := gd.nr; have g3 := gd.na
  refine Fn.call fmix (g69 b) ?_
  unfold b69 q69
  have ha := and_one h0 (show l ≤ 9223372036854775807 by omega)
  have fr : ∀ i, mem i = mem i := fun _ => rfl
  by_cases c1 : l < 2
  · have eT : turnS T l = T := if_pos (.inl c1)
    have eg : getL G.nb T l = l := by unfold getL; rw [if_pos c1]
    rw [eT, eg]
    simp -implicitDefEqProofs only [vqa, Nat.reduceEqDiff, Nat.reduceAdd, reduceIte, Nat.reduceLeDiff, Nat.reduceBEq, Nat.reduceLT, Nat.reduceSub, Int.reduceLT, Int.reduceLE, Int.reduceEq, Int.reduceToNat, Nat.reduceMul, eq_self, implies_true, forall_const, c1]
    exact ⟨tv, x3, m2, hU, m3, hA⟩
  by_cases c2 : l % 2 = 0
  · have eT : turnS T l = T := if_pos (.inr (.inl c2))
    have eg : getL G.nb T l = netL l := by unfold getL; rw [if_neg c1, if_pos c2]
    rw [eT, eg]
    simp -implicitDefEqProofs only [vqa, Nat.reduceEqDiff, Nat.reduceAdd, reduceIte, Nat.reduceLeDiff, Nat.reduceBEq, Nat.reduceLT, Nat.reduceSub, Int.reduceLT, Int.reduceLE, Int.reduceEq, Int.reduceToNat, Nat.reduceMul, eq_self, implies_true, forall_const, c1, ha, c2, m1]
    refine CallW.sc (p68 l h0 h1) rfl ⟨trivial, trivial⟩ fun r hr => ⟨by subst hr; rfl, ?_⟩
    subst hr
    simp -implicitDefEqProofs only [vqa, Nat.reduceEqDiff, Nat.reduceAdd, reduceIte, Nat.reduceLeDiff, Nat.reduceBEq, Nat.reduceLT, Nat.reduceSub, Int.reduceLT, Int.reduceLE, Int.reduceEq, Int.reduceToNat, Nat.reduceMul, eq_self, implies_true, forall_const]
    exact ⟨tv, x3, m2, hU, m3, hA⟩
  simp -implicitDefEqProofs only [vqa, Nat.reduceEqDiff, Nat.reduceAdd, reduceIte, Nat.reduceLeDiff, Nat.reduceBEq, Nat.reduceLT, Nat.reduceSub, Int.reduceLT, Int.reduceLE, Int.reduceEq, Int.reduceToNat, Nat.reduceMul, eq_self, implies_true, forall_const, c1, ha, c2, m1, m2]
  obtain ⟨ft, rt, gt⟩ := hU.rs2
  refine CallW.sc (p67 T ft gt l (by omega)) ?_ ?_ fun r hr => ⟨by subst hr; rfl, ?_⟩
  · simp only [rsC, rt]; rfl
  · simp only [rsC, rt, and_self]; exact ⟨trivial, trivial, trivial⟩
  subst hr
  by_cases c3 : l ∈ T
  · have eT : turnS T l = T := if_pos (.inr (.inr c3))
    have eg : getL G.nb T l = (G.nb : Int) + (T.idxOf l : Nat) := by unfold getL; rw [if_neg c1, if_neg c2]
    rw [eT, eg, if_pos c3]
    have hix : T.idxOf l < T.length := List.idxOf_lt_length_of_mem c3
    simp -implicitDefEqProofs only [vqa, Nat.reduceEqDiff, Nat.reduceAdd, reduceIte, Nat.reduceLeDiff, Nat.reduceBEq, Nat.reduceLT, Nat.reduceSub, Int.reduceLT, Int.reduceLE, Int.reduceEq, Int.reduceToNat, Nat.reduceMul, eq_self, implies_true, forall_const, m1, m2, m3, m4]
    refine ⟨fun h => by omega, fun _ => ?_⟩
    rw [wI (n := 2 + (G.ni : Int)) (by omega) (by omega), wI (n := 2 + (G.ni : Int) + G.nr) (by omega) (by omega), wI (n := 2 + (G.ni : Int) + G.nr + G.na) (by omega) (by omega), wI (by omega) (by omega)]
    exact ⟨by unfold Gra.nb; omega, tv, x3, rfl, hU, rfl, hA⟩
  · have eT : turnS T l = T ++ [l] := if_neg (by simp only [not_or]; exact ⟨c1, c2, c3⟩)
    rw [if_neg c3, eT, getL_new c1 c2 c3, List.length_append]
    have y1 := bNe hon; have y2 := bNe hot; have y3 := bNe hoo; have y4 := bNe hog
    have w1 := bNe' hon; have w2 := bNe' hot; have w3 := bNe' hoo; have w4 := bNe' hog
    have q3 : ∀ m, restr (twoL oo on) m oo = m oo := fun m => restr_two1
    have q4 : ∀ m, restr (twoL oo on) m on = m on := fun m => restr_two2
    obtain ⟨hz, htv⟩ | ⟨s', tvv, tg, hs', htv, htm, htg, htn⟩ := hU
    · rcases hst with ⟨_, _, _, _, _, _, hx, _⟩ | ⟨rfl, _⟩
      · exact absurd htv hx
      subst htv
      rcases hs with ⟨hsb, s1, s2, s3, s4, s5⟩ | ⟨rfl, rfl⟩
      · skip
        obtain ⟨_, hx⟩ | ⟨s', sv, gg, hs', rfl, hm, hg, hgn⟩ := hA
        · exact absurd hx s5
        obtain rfl : s' = s := by simpa using hs'
        have y5 := bNe hsb; have w5 := bNe' hsb
        simp -implicitDefEqProofs only [vqa, Nat.reduceEqDiff, Nat.reduceAdd, reduceIte, Nat.reduceLeDiff, Nat.reduceBEq, Nat.reduceLT, Nat.reduceSub, Int.reduceLT, Int.reduceLE, Int.reduceEq, Int.reduceToNat, Nat.reduceMul, eq_self, implies_true, forall_const, m1, m2, m3, m4, y1, y2, y3, y4, w1, w2, w3, w4, n1, n2, n3, n4, n5, Ne.symm n1, Ne.symm n2, Ne.symm n3, Ne.symm n4, Ne.symm n5, hm, y5, w5, s1, s2, s3, s4, Ne.symm s1, Ne.symm s2, Ne.symm s3, Ne.symm s4]
        refine vAny [0, 1, 2, 3, 4, 5, 6, 7, 8, 9, 10] 10 (twoL oo on) (by kernel_rfl) (by kernel_rfl) ?_
        simp -implicitDefEqProofs only [vqa, Nat.reduceEqDiff, Nat.reduceAdd, reduceIte, Nat.reduceLeDiff, Nat.reduceBEq, Nat.reduceLT, Nat.reduceSub, Int.reduceLT, Int.reduceLE, Int.reduceEq, Int.reduceToNat, Nat.reduceMul, eq_self, implies_true, forall_const, q3, q4, m1, m2, m3, m4, y1, y2, y3, y4, w1, w2, w3, w4, n1, n2, n3, n4, n5, Ne.symm n1, Ne.symm n2, Ne.symm n3, Ne.symm n4, Ne.symm n5, hm, y5, w5, s1, s2, s3, s4, Ne.symm s1, Ne.symm s2, Ne.symm s3, Ne.symm s4]
        refine CallW.sc (p68 l h0 h1) rfl ⟨trivial, trivial⟩ fun r hr => ⟨by subst hr; rfl, ?_⟩
        subst hr
        simp -implicitDefEqProofs only [vqa, Nat.reduceEqDiff, Nat.reduceAdd, reduceIte, Nat.reduceLeDiff, Nat.reduceBEq, Nat.reduceLT, Nat.reduceSub, Int.reduceLT, Int.reduceLE, Int.reduceEq, Int.reduceToNat, Nat.reduceMul, eq_self, implies_true, forall_const, q3, q4, agree_two, m1, m2, m3, m4, y1, y2, y3, y4, w1, w2, w3, w4, n1, n2, n3, n4, n5, Ne.symm n1, Ne.symm n2, Ne.symm n3, Ne.symm n4, Ne.symm n5, hm, y5, w5, s1, s2, s3, s4, Ne.symm s1, Ne.symm s2, Ne.symm s3, Ne.symm s4]
        rw [wI (n := 2 + (G.ni : Int)) (by omega) (by omega), wI (n := 2 + (G.ni : Int) + G.nr) (by omega) (by omega), wI (n := 2 + (G.ni : Int) + G.nr + G.na) (by omega) (by omega), wI (by omega) (by omega)]
        refine ⟨⟨by omega, by omega⟩, by unfold Gra.nb; omega, _, _, rfl, ?_, rfl, ?_, fun i hi h1 h2 h3 h4 => ?_⟩
        · have e0 : T.length + 1 = 1 := by omega
          rw [e0]
          refine AccP.put (AccP.put (AccP.put (AccP.put (AccP.put (AccP.put (AccP.first (by simp) ?_) (by simp <;> omega)) (by simp <;> omega)) (by simp <;> omega)) (by simp <;> omega)) (by simp <;> omega)) (by simp <;> omega)
          have := intP_new (T := T) (l := l)
          rwa [show T.length = 0 by omega] at this
        · exact AccP.put (AccP.push (by simp) (fun j hj => gateP_old hj (hg j hj)) (gateP_new rfl)) (by simp <;> omega)
        · have q := bNe hi
          simp only [q, h1, h2, h3, h4, if_false]
      · skip
        obtain ⟨hzz, _⟩ | ⟨s', sv, gg, hs', hx, _⟩ := hA
        case inr => cases hx
        have hTT : T.length = 0 := by omega
        simp -implicitDefEqProofs only [vqa, Nat.reduceEqDiff, Nat.reduceAdd, reduceIte, Nat.reduceLeDiff, Nat.reduceBEq, Nat.reduceLT, Nat.reduceSub, Int.reduceLT, Int.reduceLE, Int.reduceEq, Int.reduceToNat, Nat.reduceMul, eq_self, implies_true, forall_const, m1, m2, m3, m4, y1, y2, y3, y4, w1, w2, w3, w4, n1, n2, n3, n4, n5, Ne.symm n1, Ne.symm n2, Ne.symm n3, Ne.symm n4, Ne.symm n5]
        refine vAny [0, 1, 2, 3, 4, 5, 6, 7, 8, 9, 10] 10 (twoL oo on) (by kernel_rfl) (by kernel_rfl) ?_
        simp -implicitDefEqProofs only [vqa, Nat.reduceEqDiff, Nat.reduceAdd, reduceIte, Nat.reduceLeDiff, Nat.reduceBEq, Nat.reduceLT, Nat.reduceSub, Int.reduceLT, Int.reduceLE, Int.reduceEq, Int.reduceToNat, Nat.reduceMul, eq_self, implies_true, forall_const, q3, q4, m1, m2, m3, m4, y1, y2, y3, y4, w1, w2, w3, w4, n1, n2, n3, n4, n5, Ne.symm n1, Ne.symm n2, Ne.symm n3, Ne.symm n4, Ne.symm n5]
        refine CallW.sc (p68 l h0 h1) rfl ⟨trivial, trivial⟩ fun r hr => ⟨by subst hr; rfl, ?_⟩
        subst hr
        simp -implicitDefEqProofs only [vqa, Nat.reduceEqDiff, Nat.reduceAdd, reduceIte, Nat.reduceLeDiff, Nat.reduceBEq, Nat.reduceLT, Nat.reduceSub, Int.reduceLT, Int.reduceLE, Int.reduceEq, Int.reduceToNat, Nat.reduceMul, eq_self, implies_true, forall_const, q3, q4, agree_two, m1, m2, m3, m4, y1, y2, y3, y4, w1, w2, w3, w4, n1, n2, n3, n4, n5, Ne.symm n1, Ne.symm n2, Ne.symm n3, Ne.symm n4, Ne.symm n5]
        rw [wI (n := 2 + (G.ni : Int)) (by omega) (by omega), wI (n := 2 + (G.ni : Int) + G.nr) (by omega) (by omega), wI (n := 2 + (G.ni : Int) + G.nr + G.na) (by omega) (by omega), wI (by omega) (by omega)]
        refine ⟨by unfold Gra.nb; omega, _, _, rfl, ?_, rfl, ?_, fun i hi h1 h2 h3 h4 => ?_⟩
        · have e0 : T.length + 1 = 1 := by omega
          rw [e0]
          refine AccP.put (AccP.put (AccP.put (AccP.put (AccP.put (AccP.put (AccP.first (by simp) ?_) (by simp <;> omega)) (by simp <;> omega)) (by simp <;> omega)) (by simp <;> omega)) (by simp <;> omega)) (by simp <;> omega)
          have := intP_new (T := T) (l := l)
          rwa [show T.length = 0 by omega] at this
        · have e0 : G.na + (T.length + 1) = 1 := by omega
          rw [e0]
          refine AccP.put (AccP.first (by simp) ?_) (by simp <;> omega)
          have := gateP_new (G := G) (T := T) (l := l) (f := fun i => [AV.int IntKind.i64 (netL l)].getD i AV.undef) rfl
          rwa [show G.na + T.length = 0 by omega] at this
        · have q := bNe hi
          simp only [q, h1, h2, h3, h4, if_false]
    · rcases hst with ⟨htb, t1, t2, t3, t4, t5, hx, htl⟩ | ⟨_, hx⟩
      case inr => subst hx; cases htv
      obtain rfl : s' = st := by simpa using hs'
      subst htv
      rcases hs with ⟨hsb, s1, s2, s3, s4, s5⟩ | ⟨rfl, rfl⟩
      · skip
        obtain ⟨_, hx⟩ | ⟨s'', sv, gg, hs'', rfl, hm, hg, hgn⟩ := hA
        · exact absurd hx s5
        obtain rfl : s'' = s := by simpa using hs''
        have y5 := bNe hsb; have w5 := bNe' hsb
        have y6 := bNe htb; have w6 := bNe' htb
        simp -implicitDefEqProofs only [vqa, Nat.reduceEqDiff, Nat.reduceAdd, reduceIte, Nat.reduceLeDiff, Nat.reduceBEq, Nat.reduceLT, Nat.reduceSub, Int.reduceLT, Int.reduceLE, Int.reduceEq, Int.reduceToNat, Nat.reduceMul, eq_self, implies_true, forall_const, m1, m2, m3, m4, y1, y2, y3, y4, w1, w2, w3, w4, n1, n2, n3, n4, n5, Ne.symm n1, Ne.symm n2, Ne.symm n3, Ne.symm n4, Ne.symm n5, htm, y6, w6, t1, t2, t3, t4, t5, Ne.symm t1, Ne.symm t2, Ne.symm t3, Ne.symm t4, Ne.symm t5, hm, y5, w5, s1, s2, s3, s4, Ne.symm s1, Ne.symm s2, Ne.symm s3, Ne.symm s4]
        refine ⟨⟨by omega, by omega⟩, ?_⟩
        refine vAny [0, 1, 2, 3, 4, 5, 6, 7, 8, 9, 10] 10 (twoL oo on) (by kernel_rfl) (by kernel_rfl) ?_
        simp -implicitDefEqProofs only [vqa, Nat.reduceEqDiff, Nat.reduceAdd, reduceIte, Nat.reduceLeDiff, Nat.reduceBEq, Nat.reduceLT, Nat.reduceSub, Int.reduceLT, Int.reduceLE, Int.reduceEq, Int.reduceToNat, Nat.reduceMul, eq_self, implies_true, forall_const, q3, q4, m1, m2, m3, m4, y1, y2, y3, y4, w1, w2, w3, w4, n1, n2, n3, n4, n5, Ne.symm n1, Ne.symm n2, Ne.symm n3, Ne.symm n4, Ne.symm n5, htm, y6, w6, t1, t2, t3, t4, t5, Ne.symm t1, Ne.symm t2, Ne.symm t3, Ne.symm t4, Ne.symm t5, hm, y5, w5, s1, s2, s3, s4, Ne.symm s1, Ne.symm s2, Ne.symm s3, Ne.symm s4]
        refine CallW.sc (p68 l h0 h1) rfl ⟨trivial, trivial⟩ fun r hr => ⟨by subst hr; rfl, ?_⟩
        subst hr
        simp -implicitDefEqProofs only [vqa, Nat.reduceEqDiff, Nat.reduceAdd, reduceIte, Nat.reduceLeDiff, Nat.reduceBEq, Nat.reduceLT, Nat.reduceSub, Int.reduceLT, Int.reduceLE, Int.reduceEq, Int.reduceToNat, Nat.reduceMul, eq_self, implies_true, forall_const, q3, q4, agree_two, m1, m2, m3, m4, y1, y2, y3, y4, w1, w2, w3, w4, n1, n2, n3, n4, n5, Ne.symm n1, Ne.symm n2, Ne.symm n3, Ne.symm n4, Ne.symm n5, htm, y6, w6, t1, t2, t3, t4, t5, Ne.symm t1, Ne.symm t2, Ne.symm t3, Ne.symm t4, Ne.symm t5, hm, y5, w5, s1, s2, s3, s4, Ne.symm s1, Ne.symm s2, Ne.symm s3, Ne.symm s4]
        rw [wI (n := 2 + (G.ni : Int)) (by omega) (by omega), wI (n := 2 + (G.ni : Int) + G.nr) (by omega) (by omega), wI (n := 2 + (G.ni : Int) + G.nr + G.na) (by omega) (by omega), wI (by omega) (by omega)]
        refine ⟨⟨by omega, by omega⟩, by unfold Gra.nb; omega, _, _, rfl, ?_, rfl, ?_, fun i hi h1 h2 h3 h4 => ?_⟩
        · exact AccP.put (AccP.put (AccP.put (AccP.put (AccP.put (AccP.put (AccP.push (by simp) (fun j hj => intP_old hj (htg j hj)) intP_new) (by simp <;> omega)) (by simp <;> omega)) (by simp <;> omega)) (by simp <;> omega)) (by simp <;> omega)) (by simp <;> omega)
        · exact AccP.put (AccP.push (by simp) (fun j hj => gateP_old hj (hg j hj)) (gateP_new rfl)) (by simp <;> omega)
        · have q := bNe hi
          simp only [q, h1, h2, h3, h4, if_false]
      · obtain ⟨hzz, _⟩ | ⟨s'', sv, gg, hs'', hx, _⟩ := hA
        · omega
        · cases hx
def a34_0 : AC := (.seq (.ops [⟨(some 28), none, (.v (.bin .lss (.t 27) (.t 26)))⟩]) (.seq (.cond (.t 28) .skip (.exit 0)) (.seq (.block 1 (.seq (.ops [⟨(some 29), none, (.v (.idx 2 (.t 25) (.t 27)))⟩, ⟨(some 30), none, (.v (.load 2 true (.t 29)))⟩, ⟨(some 10), none, (.e (.alloc 10 [(.int .i64 0), (.int .i64 0)]))⟩, ⟨none, none, (.e (.store 2 (.t 10) (.t 30)))⟩]) (.seq (.ops [⟨(some 11), none, (.v (.mv (.c (.int .i64 3))))⟩]) (.seq (.seq (.ops [⟨(some 31), none, (.v (.fld 0 (.t 10)))⟩, ⟨(some 32), none, (.v (.load 1 false (.t 31)))⟩, ⟨(some 33), none, (.v (.bin .and (.t 32) (.c (.int .i64 1))))⟩, ⟨(some 34), none, (.v (.bin .eql (.t 33) (.c (.int .i64 1))))⟩]) (.cond (.t 34) (.ops [⟨(some 35), none, (.v (.mv (.t 11)))⟩, ⟨(some 36), none, (.v (.bin .sub (.t 35) (.c (.int .i64 1))))⟩, ⟨(some 11), none, (.v (.mv (.t 36)))⟩]) .skip)) (.seq (.seq (.ops [⟨(some 37), none, (.v (.fld 1 (.t 10)))⟩, ⟨(some 38), none, (.v (.load 1 false (.t 37)))⟩, ⟨(some 39), none, (.v (.bin .and (.t 38) (.c (.int .i64 1))))⟩, ⟨(some 40), none, (.v (.bin .eql (.t 39) (.c (.int .i64 1))))⟩]) (.cond (.t 40) (.ops [⟨(some 41), none, (.v (.mv (.t 11)))⟩, ⟨(some 42), none, (.v (.bin .sub (.t 41) (.c (.int .i64 2))))⟩, ⟨(some 11), none, (.v (.mv (.t 42)))⟩]) .skip)) (.any [⟨(some 43), none, (.v (.fld 3 (.t 7)))⟩, ⟨(some 44), none, (.v (.load 1 false (.t 43)))⟩, ⟨(some 45), none, (.v (.mv (.t 11)))⟩, ⟨(some 46), none, (.v (.bin .shl (.c (.int .u64 1)) (.t 45)))⟩, ⟨(some 47), none, (.v (.load 1 false (.t 8)))⟩, ⟨(some 48), none, (.v (.fld 0 (.t 10)))⟩, ⟨(some 49), none, (.v (.load 1 false (.t 48)))⟩, ⟨(some 50), none, (.call (.t 47) [(.t 49)])⟩, ⟨(some 51), none, (.v (.load 1 false (.t 8)))⟩, ⟨(some 52), none, (.v (.fld 1 (.t 10)))⟩, ⟨(some 53), none, (.v (.load 1 false (.t 52)))⟩, ⟨(some 54), none, (.call (.t 51) [(.t 53)])⟩, ⟨(some 55), none, (.e (.lit 55 3 1 2 [(.int .i64 0)] [(0, (.t 50)), (1, (.t 54))]))⟩, ⟨(some 56), none, (.v (.build [(.int .i64 0), (.int .u64 0), .cap0] [(0, (1, (.c (.int .i64 (-1))))), (1, (1, (.t 46))), (2, (1, (.t 55)))]))⟩, ⟨(some 57), none, (.e (.lit 57 127 3 1 [(.int .i64 0), (.int .u64 0), .cap0] [(0, (.t 56))]))⟩, ⟨(some 58), none, (.e (.app 58 127 3 40 (.t 44) (.t 57)))⟩, ⟨(some 59), none, (.v (.fld 3 (.t 7)))⟩, ⟨none, none, (.e (.store 1 (.t 59) (.t 58)))⟩] [[], [0], [], [2], [], [], [5], [4, 6], [], [], [9], [8, 10, 7], [7, 11], [3, 12], [13], [1, 14, 11], [0, 1, 2, 3, 4, 5, 6, 7, 8, 9, 10, 11, 12, 13, 14, 15], [16, 15, 15, 0, 1, 2, 3, 4, 5, 6, 7, 8, 9, 10, 11, 12, 13, 14, 15]])))))) (.ops [⟨(some 60), none, (.v (.bin .add (.t 27) (.c (.int .i64 1))))⟩, ⟨(some 27), none, (.v (.mv (.t 60)))⟩]))))
def a34_1 : AC := (.seq (.ops [⟨(some 66), none, (.v (.bin .lss (.t 65) (.t 64)))⟩]) (.seq (.cond (.t 66) .skip (.exit 2)) (.seq (.block 3 (.seq (.ops [⟨(some 67), none, (.v (.idx 1 (.t 63) (.t 65)))⟩, ⟨(some 68), none, (.v (.load 1 false (.t 67)))⟩, ⟨(some 15), none, (.v (.mv (.t 68)))⟩]) (.any [⟨(some 69), none, (.v (.fld 4 (.t 7)))⟩, ⟨(some 70), none, (.v (.load 1 false (.t 69)))⟩, ⟨(some 71), none, (.v (.mv (.t 13)))⟩, ⟨(some 72), none, (.v (.mv (.t 15)))⟩, ⟨(some 73), none, (.call (.t 71) [(.t 72)])⟩, ⟨(some 74), none, (.e (.lit 74 3 1 1 [(.int .i64 0)] [(0, (.t 73))]))⟩, ⟨(some 75), none, (.e (.app 75 3 1 8 (.t 70) (.t 74)))⟩, ⟨(some 76), none, (.v (.fld 4 (.t 7)))⟩, ⟨none, none, (.e (.store 1 (.t 76) (.t 75)))⟩] [[], [0], [], [], [2, 3], [4], [1, 5, 4], [0, 1, 2, 3, 4, 5, 6], [7, 6, 6, 0, 1, 2, 3, 4, 5, 6]]))) (.ops [⟨(some 77), none, (.v (.bin .add (.t 65) (.c (.int .i64 1))))⟩, ⟨(some 65), none, (.v (.mv (.t 77)))⟩]))))
def a34_2 : AC := (.seq (.ops [⟨(some 82), none, (.v (.bin .lss (.t 81) (.t 80)))⟩]) (.seq (.cond (.t 82) .skip (.exit 4)) (.seq (.block 5 (.seq (.ops [⟨(some 83), none, (.v (.mv (.t 81)))⟩, ⟨(some 84), none, (.v (.idx 3 (.t 79) (.t 81)))⟩, ⟨(some 85), none, (.v (.load 3 true (.t 84)))⟩, ⟨(some 17), none, (.e (.alloc 17 [(.str ⟨#[]⟩), (.int .i64 0), (.bool false)]))⟩, ⟨(some 16), none, (.v (.mv (.t 83)))⟩, ⟨none, none, (.e (.store 3 (.t 17) (.t 85)))⟩]) (.seq (.ops [⟨(some 86), none, (.v (.fld 0 (.t 17)))⟩, ⟨(some 87), none, (.v (.load 1 false (.t 86)))⟩, ⟨(some 88), none, (.v (.fld 2 (.t 17)))⟩, ⟨(some 89), none, (.v (.load 1 false (.t 88)))⟩, ⟨(some 90), none, (.v (.build [(.str ⟨#[]⟩), (.int .i64 0), (.int .i64 0), (.int .i64 0), (.bool false)] [(0, (1, (.t 87))), (1, (1, (.c (.int .i64 (-1))))), (4, (1, (.t 89)))]))⟩, ⟨(some 18), none, (.e (.alloc 18 [(.str ⟨#[]⟩), (.int .i64 0), (.int .i64 0), (.int .i64 0), (.bool false)]))⟩, ⟨none, none, (.e (.store 5 (.t 18) (.t 90)))⟩]) (.seq (.ops [⟨(some 91), none, (.v (.mv (.t 13)))⟩, ⟨(some 92), none, (.v (.mv (.t 1)))⟩, ⟨(some 93), none, (.v (.mv (.t 16)))⟩, ⟨(some 94), none, (.v (.idx 1 (.t 92) (.t 93)))⟩, ⟨(some 95), none, (.v (.load 1 false (.t 94)))⟩, ⟨(some 96), none, (.call (.t 91) [(.t 95)])⟩, ⟨(some 97), none, (.v (.fld 2 (.t 18)))⟩, ⟨none, none, (.e (.store 1 (.t 97) (.t 96)))⟩]) (.seq (.ops [⟨(some 98), none, (.v (.mv (.t 13)))⟩, ⟨(some 99), none, (.v (.mv (.t 2)))⟩, ⟨(some 100), none, (.v (.mv (.t 16)))⟩, ⟨(some 101), none, (.v (.idx 1 (.t 99) (.t 100)))⟩, ⟨(some 102), none, (.v (.load 1 false (.t 101)))⟩, ⟨(some 103), none, (.call (.t 98) [(.t 102)])⟩, ⟨(some 104), none, (.v (.fld 3 (.t 18)))⟩, ⟨none, none, (.e (.store 1 (.t 104) (.t 103)))⟩]) (.ops [⟨(some 105), none, (.v (.fld 2 (.t 7)))⟩, ⟨(some 106), none, (.v (.load 1 false (.t 105)))⟩, ⟨(some 107), none, (.v (.load 5 true (.t 18)))⟩, ⟨(some 108), none, (.e (.lit 108 129 5 1 [(.str ⟨#[]⟩), (.int .i64 0), (.int .i64 0), (.int .i64 0), (.bool false)] [(0, (.t 107))]))⟩, ⟨(some 109), none, (.e (.app 109 129 5 48 (.t 106) (.t 108)))⟩, ⟨(some 110), none, (.v (.fld 2 (.t 7)))⟩, ⟨none, none, (.e (.store 1 (.t 110) (.t 109)))⟩])))))) (.ops [⟨(some 111), none, (.v (.bin .add (.t 81) (.c (.int .i64 1))))⟩, ⟨(some 81), none, (.v (.mv (.t 111)))⟩]))))
def a34 : AC := (.seq (.ops [⟨(some 3), none, (.e (.box 3 0 (.t 0)))⟩, ⟨(some 6), none, (.e (.alloc 6 [.cap0, .cap0, .cap0, .cap0, .cap0]))⟩]) (.seq (.ops [⟨(some 19), none, (.v (.fld 0 (.t 3)))⟩, ⟨(some 20), none, (.v (.load 1 false (.t 19)))⟩, ⟨(some 21), none, (.v (.fld 1 (.t 3)))⟩, ⟨(some 22), none, (.v (.load 1 false (.t 21)))⟩, ⟨(some 23), none, (.v (.build [.cap0, .cap0, .cap0, .cap0, .cap0] [(0, (1, (.t 20))), (1, (1, (.t 22)))]))⟩, ⟨(some 7), none, (.e (.alloc 7 [.cap0, .cap0, .cap0, .cap0, .cap0]))⟩, ⟨none, none, (.e (.store 5 (.t 7) (.t 23)))⟩]) (.seq (.ops [⟨(some 8), none, (.e (.alloc 8 [.nilf]))⟩, ⟨none, none, (.e (.store 1 (.t 8) (.c (.fn 68 []))))⟩]) (.seq (.seq (.ops [⟨(some 24), none, (.v (.fld 3 (.t 3)))⟩, ⟨(some 25), none, (.v (.load 1 false (.t 24)))⟩, ⟨(some 26), none, (.v (.len (.t 25)))⟩, ⟨(some 27), none, (.v (.mv (.c (.int .i64 0))))⟩]) (.block 0 (.loop a34_0))) (.seq (.ops [⟨(some 12), none, (.e (.alloc 12 [.cap0]))⟩]) (.seq (.ops [⟨(some 61), none, (.v (.mkfn 69 [(.t 8), (.t 12), (.t 7), (.t 3)]))⟩, ⟨(some 13), none, (.v (.mv (.t 61)))⟩]) (.seq (.seq (.ops [⟨(some 62), none, (.v (.fld 4 (.t 3)))⟩, ⟨(some 63), none, (.v (.load 1 false (.t 62)))⟩, ⟨(some 64), none, (.v (.len (.t 63)))⟩, ⟨(some 65), none, (.v (.mv (.c (.int .i64 0))))⟩]) (.block 2 (.loop a34_1))) (.seq (.seq (.ops [⟨(some 78), none, (.v (.fld 2 (.t 3)))⟩, ⟨(some 79), none, (.v (.load 1 false (.t 78)))⟩, ⟨(some 80), none, (.v (.len (.t 79)))⟩, ⟨(some 81), none, (.v (.mv (.c (.int .i64 0))))⟩]) (.block 4 (.loop a34_2))) (.seq (.ops [⟨(some 112), none, (.v (.load 5 true (.t 7)))⟩, ⟨none, none, (.e (.store 5 (.t 6) (.t 112)))⟩]) .ret)))))))))
def r34 : List AI := [(.load 5 true (.t 6))]
theorem f34 : Fn PP 34 3 a34 r34 := Fn.of (fn := Go.Proofs.Try.f34) (by kernel_rfl) (by kernel_rfl) (by kernel_rfl)
theorem tabW_shl (a b : Int) (k : Int) (hk : k = 3 - a % 2 - 2 * (b % 2)) : IntKind.u64.wrap (1 * 2 ^ min k.toNat 64) = tabW a b := by
  subst hk
  unfold tabW
  rcases Int.emod_two_eq a with ha | ha <;> rcases Int.emod_two_eq b with hb | hb <;> rw [ha, hb] <;> rfl
theorem gateP_and {G : Gra} {T : List Int} {i : Nat} {t : Int} {f : Nat → AV} (hi : i < G.na) (ht : t = tabW (G.A i) (G.B i)) (h0 : f 0 = .int .i64 (netL (G.A i))) (h1 : f 1 = .int .i64 (netL (G.B i))) : gateP G T i (.agg [.int .i64 (-1), .int .u64 t, .fs 2 f]) := by
  subst ht
  unfold gateP gtW
  rw [if_pos hi]
  refine ⟨f, rfl, fun j hj => ?_⟩
  have hj' : j < 2 := hj
  rcases (by omega : j = 0 ∨ j = 1) with rfl | rfl
  · exact h0
  · exact h1
def flopP (N : Net) (i : Nat) (a : AV) : Prop := a = (N.flop i).av
def outP (N : Net) (i : Nat) (a : AV) : Prop := a = .int .i64 (N.outs i)
def sg (G : Gra) : Nat := if G.na = 0 then 1036 else 58
/-- How things stand behind k questions. -/
def PlS (G : Gra) (d en : Nat → Int) (k V7 V8 V12 : Nat) (x0 x1 x2 x4 : AV) (m : Mem) : Prop := ∃ tv x3, m 8 = .var V8 [.fn 68 []] ∧ m 12 = .var V12 [tv] ∧ m 7 = .var V7 [x0, x1, x2, x3, x4] ∧ AccP [1027] 35 1 (tW G d en k).length (intP (tW G d en k)) tv m ∧ AccP [sg G] 127 3 (G.na + (tW G d en k).length) (gateP G (tW G d en k)) x3 m
theorem PlS.keep {G : Gra} {d en : Nat → Int} {k V7 V8 V12 : Nat} {x0 x1 x2 x4 : AV} {m m' : Mem} (h : PlS G d en k V7 V8 V12 x0 x1 x2 x4 m) (hk : ∀ i, i = 7 ∨ i = 8 ∨ i = 12 ∨ i = 58 ∨ i = 1027 ∨ i = 1036 → m' i = m i) : PlS G d en k V7 V8 V12 x0 x1 x2 x4 m' := by
  obtain ⟨tv, x3, q8, q12, q7, qU, qA⟩ := h
  have hsg : sg G = 1036 ∨ sg G = 58 := by unfold sg; split <;> simp
  refine ⟨tv, x3, by rw [hk 8 (by simp)]; exact q8, by rw [hk 12 (by simp)]; exact q12, by rw [hk 7 (by simp)]; exact q7, qU.keep fun i h => ?_, qA.keep fun i h => ?_⟩
  · obtain rfl : i = 1027 := by simpa using h
    exact hk _ (by simp)
  · obtain rfl : i = sg G := by simpa using h
    exact hk _ (by omega)
theorem PlS.call {G : Gra} {cs : List AV} (hG : GraC cs G) (gd : G.Good) {d en : Nat → Int} {k V3 V7 V8 V12 : Nat} {x0 x1 x2 x4 : AV} {m : Mem} (h : PlS G d en k V7 V8 V12 x0 x1 x2 x4 m) (m3 : m 3 = .var V3 cs) (hk : k < G.nk + 2 * G.nr) (l : Int) (hl : l = qW G d en k) (hq : litOk G.nodes l) :
    CallW PP 69 [.int .i64 l, .ptr 8 V8 0, .ptr 12 V12 0, .ptr 7 V7 0, .ptr 3 V3 0] m fun v m' => v = .int .i64 (getL G.nb (tEnd G d en) l) ∧ PlS G d en (k + 1) V7 V8 V12 x0 x1 x2 x4 m' ∧ ∀ i, i < 1000 → i ≠ 12 → i ≠ 7 → i ≠ 58 → m' i = m i := by
  obtain ⟨tv, x3, m8, m12, m7, hU, hA⟩ := h
  have b1 := gd.ni; have b2 := gd.nr; have b3 := gd.na; have b4 := gd.nk; have b5 := gd.no
  have hbE : G.base = 1 + G.ni + G.nr := rfl
  have hnE : G.nodes = G.base + G.na := rfl
  have hlen := tW_len G d en k
  obtain ⟨l0, l1⟩ := hq
  have e1 : turnS (tW G d en k) l = tW G d en (k + 1) := by rw [hl]; rfl
  have e2 : getL G.nb (turnS (tW G d en k) l) l = getL G.nb (tEnd G d en) l := by rw [e1, hl]; exact getL_end hk
  have h0 : ∀ b, (sg G < b ∧ sg G ≠ 8 ∧ sg G ≠ 12 ∧ sg G ≠ 7 ∧ sg G ≠ 3 ∧ x3 ≠ .cap0) ∨ (sg G = b + 36 ∧ x3 = .cap0) → (1027 < b ∧ 1027 ≠ 8 ∧ 1027 ≠ 12 ∧ 1027 ≠ 7 ∧ 1027 ≠ 3 ∧ 1027 ≠ sg G ∧ tv ≠ .cap0 ∧ 0 < (tW G d en k).length) ∨ (1027 = b + 27 ∧ tv = .cap0) → 1000 ≤ b → CallW PP 69 [.int .i64 l, .ptr 8 V8 0, .ptr 12 V12 0, .ptr 7 V7 0, .ptr 3 V3 0] m fun v m' => v = .int .i64 (getL G.nb (tEnd G d en) l) ∧ PlS G d en (k + 1) V7 V8 V12 x0 x1 x2 x4 m' ∧ ∀ i, i < 1000 → i ≠ 12 → i ≠ 7 → i ≠ 58 → m' i = m i := fun b c1 c2 c3 =>
    (p69 hG gd (tW_two G d en k) (by omega) l l0 (by omega) b (show 8 < b by omega) (show 12 < b by omega) (show 7 < b by omega) (show 3 < b by omega) (by decide) (by decide) (by decide) (by decide) (by decide) c1 c2 m8 m12 m7 m3 hU hA).mono fun v m' ⟨hv, tv', x3', q1, q2, q3, q4, q5⟩ => by
      rw [e1] at q2 q4
      have hsg : sg G = 1036 ∨ sg G = 58 := by unfold sg; split <;> simp
      exact ⟨by rw [hv, e2], ⟨tv', x3', by rw [q5 8 (by omega) (by decide) (by decide) (by omega) (by decide)]; exact m8, q1, q3, q2, q4⟩, fun i hi h1 h2 h3 => q5 i (by omega) h1 h2 (by omega) (by omega)⟩
  have hsg : (G.na = 0 ∧ sg G = 1036) ∨ (0 < G.na ∧ sg G = 58) := by unfold sg; split <;> omega
  obtain ⟨hz, htv⟩ | ⟨s', tvv, tg, hs', htv, htm, htg, htn⟩ := hU
  · refine h0 1000 ?_ (.inr ⟨rfl, htv⟩) (Nat.le_refl _)
    obtain ⟨hzz, hx⟩ | ⟨s'', sv, gg, hs'', hx, _, _, hgn⟩ := hA
    · exact .inr ⟨by omega, hx⟩
    · exact .inl ⟨by omega, by omega, by omega, by omega, by omega, by rw [hx]; exact AV.noConfusion⟩
  · refine h0 2000 ?_ (.inl ⟨by decide, by decide, by decide, by decide, by decide, by omega, by rw [htv]; exact AV.noConfusion, htn⟩) (by decide)
    obtain ⟨hzz, hx⟩ | ⟨s'', sv, gg, hs'', hx, _, _, hgn⟩ := hA
    · omega
    · exact .inl ⟨by omega, by omega, by omega, by omega, by omega, by rw [hx]; exact AV.noConfusion⟩
theorem p34 {G : Gra} {cs : List AV} (hG : GraC cs G) (gd : G.Good) (d en : Nat → Int) (fd fe : Nat → AV) (hd : ∀ i, i < G.nr → fd i = .int .i64 (d i)) (he : ∀ i, i < G.nr → fe i = .int .i64 (en i)) (kd : ∀ i, i < G.nr → litOk G.nodes (d i)) (ke : ∀ i, i < G.nr → litOk G.nodes (en i)) :
    Pure PP 34 [.agg cs, .fs G.nr fd, .fs G.nr fe] fun r => NetA r (withN G d en) := by
  have hG0 := hG
  obtain ⟨f0, f1, f2, f3, f4, rfl, g0, g1, g2, g3, g4⟩ := hG
  have b1 := gd.ni; have b2 := gd.nr; have b3 := gd.na; have b4 := gd.nk; have b5 := gd.no
  have hbE : G.base = 1 + G.ni + G.nr := rfl
  have hnE : G.nodes = G.base + G.na := rfl
  refine Fn.pure fmix f34 ?_
  unfold a34 r34
  simp -implicitDefEqProofs only [vqa, Nat.reduceEqDiff, Nat.reduceAdd, reduceIte, Nat.reduceLeDiff, Nat.reduceBEq, Nat.reduceLT, Nat.reduceSub, Int.reduceLT, Int.reduceLE, Int.reduceEq, Int.reduceToNat, Nat.reduceMul, eq_self, implies_true, forall_const]
  generalize (mem0 3).ver + 1 = V3
  generalize (mem0 6).ver + 1 = V6
  generalize (mem0 7).ver + 1 = V7
  generalize (mem0 8).ver + 1 = V8
  have q1 : ∀ m, restr (threeL 7 8 10) m 7 = m 7 := fun _ => restr_three1
  have q2 : ∀ m, restr (threeL 7 8 10) m 8 = m 8 := fun _ => restr_three2
  have q3 : ∀ m, restr (threeL 7 8 10) m 10 = m 10 := fun _ => restr_three3
  refine vFor G.na (fun i e m => e 1 = .fs G.nr fd ∧ e 2 = .fs G.nr fe ∧ e 3 = .ptr 3 V3 0 ∧ m 3 = .var V3 [.fs G.ni f0, .fs G.no f1, .fs G.nr f2, .fs G.na f3, .fs G.nk f4] ∧ e 6 = .ptr 6 V6 0 ∧ m 6 = .var V6 [.cap0, .cap0, .cap0, .cap0, .cap0] ∧ e 7 = .ptr 7 V7 0 ∧ e 8 = .ptr 8 V8 0 ∧ m 8 = .var V8 [.fn 68 []] ∧ e 25 = .fs G.na f3 ∧ e 26 = .int .i64 G.na ∧ e 27 = .int .i64 i ∧ ∃ x3, m 7 = .var V7 [.fs G.ni f0, .fs G.no f1, .cap0, x3, .cap0] ∧ AccP [58] 127 3 i (gateP G []) x3 m) ?_ ?_ ?_
  · simp -implicitDefEqProofs only [vqa, Nat.reduceEqDiff, Nat.reduceAdd, reduceIte, Nat.reduceLeDiff, Nat.reduceBEq, Nat.reduceLT, Nat.reduceSub, Int.reduceLT, Int.reduceLE, Int.reduceEq, Int.reduceToNat, Nat.reduceMul, eq_self, implies_true, forall_const]
    exact ⟨_, rfl, .inl ⟨rfl, rfl⟩⟩
  · rintro i e m hi hi' ⟨h1, h2, h3, m3, h6, m6, h7, h8, m8, h25, h26, h27, x3, m7, hA⟩
    have hgi := g3 i hi
    have lA := gd.A i hi; have lB := gd.B i hi
    obtain ⟨lA0, lA1⟩ := lA
    obtain ⟨lB0, lB1⟩ := lB
    have aA := and_one lA0 (show G.A i ≤ 9223372036854775807 by omega)
    have aB := and_one lB0 (show G.B i ≤ 9223372036854775807 by omega)
    unfold a34_0
    rcases Int.emod_two_eq (G.A i) with pa | pa <;> rcases Int.emod_two_eq (G.B i) with pb | pb
    all_goals rw [pa] at aA
    all_goals rw [pb] at aB
    all_goals obtain ⟨hz, hx⟩ | ⟨s', sv, gg, hs', hx, hm, hg, hgn⟩ := hA
    · subst hx
      simp -implicitDefEqProofs only [vqa, Nat.reduceEqDiff, Nat.reduceAdd, reduceIte, Nat.reduceLeDiff, Nat.reduceBEq, Nat.reduceLT, Nat.reduceSub, Int.reduceLT, Int.reduceLE, Int.reduceEq, Int.reduceToNat, Nat.reduceMul, eq_self, implies_true, forall_const, h1, h2, h3, m3, h6, m6, h7, m7, h8, m8, h25, h26, h27, hi', hgi, aA, aB]
      refine ⟨by omega, ?_⟩
      refine vAny [0, 1, 2, 3, 4, 5, 6, 8, 9, 10, 7, 11, 12, 13, 14, 15, 16, 17] 17 (threeL 7 8 10) (by kernel_rfl) (by kernel_rfl) ?_
      simp -implicitDefEqProofs only [vqa, Nat.reduceEqDiff, Nat.reduceAdd, reduceIte, Nat.reduceLeDiff, Nat.reduceBEq, Nat.reduceLT, Nat.reduceSub, Int.reduceLT, Int.reduceLE, Int.reduceEq, Int.reduceToNat, Nat.reduceMul, eq_self, implies_true, forall_const, q1, q2, q3, h1, h2, h3, m3, h6, m6, h7, m7, h8, m8, h25, h26, h27, hi', hgi, aA, aB]
      try refine ⟨by decide, ?_⟩
      refine CallW.sc (p68 (G.A i) lA0 (by omega)) rfl ⟨trivial, trivial⟩ fun r hr => ⟨by subst hr; rfl, ?_⟩
      subst hr
      simp -implicitDefEqProofs only [vqa, Nat.reduceEqDiff, Nat.reduceAdd, reduceIte, Nat.reduceLeDiff, Nat.reduceBEq, Nat.reduceLT, Nat.reduceSub, Int.reduceLT, Int.reduceLE, Int.reduceEq, Int.reduceToNat, Nat.reduceMul, eq_self, implies_true, forall_const, q1, q2, q3, agree_three, h1, h2, h3, m3, h6, m6, h7, m7, h8, m8, h25, h26, h27, hi', hgi, aA, aB]
      refine CallW.sc (p68 (G.B i) lB0 (by omega)) rfl ⟨trivial, trivial⟩ fun r hr => ⟨by subst hr; rfl, ?_⟩
      subst hr
      simp -implicitDefEqProofs only [vqa, Nat.reduceEqDiff, Nat.reduceAdd, reduceIte, Nat.reduceLeDiff, Nat.reduceBEq, Nat.reduceLT, Nat.reduceSub, Int.reduceLT, Int.reduceLE, Int.reduceEq, Int.reduceToNat, Nat.reduceMul, eq_self, implies_true, forall_const, q1, q2, q3, agree_three, h1, h2, h3, m3, h6, m6, h7, m7, h8, m8, h25, h26, h27, hi', hgi, aA, aB]
      subst hz
      exact ⟨hi, wI (by omega) (by omega), _, rfl, AccP.put (AccP.first (by simp) (gateP_and hi (by unfold tabW; rw [pa, pb]; rfl) rfl rfl)) (by simp)⟩
    · subst hx
      obtain rfl : s' = 58 := by simpa using hs'
      simp -implicitDefEqProofs only [vqa, Nat.reduceEqDiff, Nat.reduceAdd, reduceIte, Nat.reduceLeDiff, Nat.reduceBEq, Nat.reduceLT, Nat.reduceSub, Int.reduceLT, Int.reduceLE, Int.reduceEq, Int.reduceToNat, Nat.reduceMul, eq_self, implies_true, forall_const, h1, h2, h3, m3, h6, m6, h7, m7, h8, m8, h25, h26, h27, hi', hgi, aA, aB, hm]
      refine ⟨by omega, ?_⟩
      refine vAny [0, 1, 2, 3, 4, 5, 6, 8, 9, 10, 7, 11, 12, 13, 14, 15, 16, 17] 17 (threeL 7 8 10) (by kernel_rfl) (by kernel_rfl) ?_
      simp -implicitDefEqProofs only [vqa, Nat.reduceEqDiff, Nat.reduceAdd, reduceIte, Nat.reduceLeDiff, Nat.reduceBEq, Nat.reduceLT, Nat.reduceSub, Int.reduceLT, Int.reduceLE, Int.reduceEq, Int.reduceToNat, Nat.reduceMul, eq_self, implies_true, forall_const, q1, q2, q3, h1, h2, h3, m3, h6, m6, h7, m7, h8, m8, h25, h26, h27, hi', hgi, aA, aB, hm]
      try refine ⟨by decide, ?_⟩
      refine CallW.sc (p68 (G.A i) lA0 (by omega)) rfl ⟨trivial, trivial⟩ fun r hr => ⟨by subst hr; rfl, ?_⟩
      subst hr
      simp -implicitDefEqProofs only [vqa, Nat.reduceEqDiff, Nat.reduceAdd, reduceIte, Nat.reduceLeDiff, Nat.reduceBEq, Nat.reduceLT, Nat.reduceSub, Int.reduceLT, Int.reduceLE, Int.reduceEq, Int.reduceToNat, Nat.reduceMul, eq_self, implies_true, forall_const, q1, q2, q3, agree_three, h1, h2, h3, m3, h6, m6, h7, m7, h8, m8, h25, h26, h27, hi', hgi, aA, aB, hm]
      refine CallW.sc (p68 (G.B i) lB0 (by omega)) rfl ⟨trivial, trivial⟩ fun r hr => ⟨by subst hr; rfl, ?_⟩
      subst hr
      simp -implicitDefEqProofs only [vqa, Nat.reduceEqDiff, Nat.reduceAdd, reduceIte, Nat.reduceLeDiff, Nat.reduceBEq, Nat.reduceLT, Nat.reduceSub, Int.reduceLT, Int.reduceLE, Int.reduceEq, Int.reduceToNat, Nat.reduceMul, eq_self, implies_true, forall_const, q1, q2, q3, agree_three, h1, h2, h3, m3, h6, m6, h7, m7, h8, m8, h25, h26, h27, hi', hgi, aA, aB, hm]
      exact ⟨⟨by omega, by omega⟩, hi, wI (by omega) (by omega), _, rfl, AccP.put (AccP.push (by simp) hg (gateP_and hi (by unfold tabW; rw [pa, pb]; rfl) rfl rfl)) (by simp)⟩
    · subst hx
      simp -implicitDefEqProofs only [vqa, Nat.reduceEqDiff, Nat.reduceAdd, reduceIte, Nat.reduceLeDiff, Nat.reduceBEq, Nat.reduceLT, Nat.reduceSub, Int.reduceLT, Int.reduceLE, Int.reduceEq, Int.reduceToNat, Nat.reduceMul, eq_self, implies_true, forall_const, h1, h2, h3, m3, h6, m6, h7, m7, h8, m8, h25, h26, h27, hi', hgi, aA, aB]
      refine ⟨by omega, ?_⟩
      refine vAny [0, 1, 2, 3, 4, 5, 6, 8, 9, 10, 7, 11, 12, 13, 14, 15, 16, 17] 17 (threeL 7 8 10) (by kernel_rfl) (by kernel_rfl) ?_
      simp -implicitDefEqProofs only [vqa, Nat.reduceEqDiff, Nat.reduceAdd, reduceIte, Nat.reduceLeDiff, Nat.reduceBEq, Nat.reduceLT, Nat.reduceSub, Int.reduceLT, Int.reduceLE, Int.reduceEq, Int.reduceToNat, Nat.reduceMul, eq_self, implies_true, forall_const, q1, q2, q3, h1, h2, h3, m3, h6, m6, h7, m7, h8, m8, h25, h26, h27, hi', hgi, aA, aB]
      try refine ⟨by decide, ?_⟩
      refine CallW.sc (p68 (G.A i) lA0 (by omega)) rfl ⟨trivial, trivial⟩ fun r hr => ⟨by subst hr; rfl, ?_⟩
      subst hr
      simp -implicitDefEqProofs only [vqa, Nat.reduceEqDiff, Nat.reduceAdd, reduceIte, Nat.reduceLeDiff, Nat.reduceBEq, Nat.reduceLT, Nat.reduceSub, Int.reduceLT, Int.reduceLE, Int.reduceEq, Int.reduceToNat, Nat.reduceMul, eq_self, implies_true, forall_const, q1, q2, q3, agree_three, h1, h2, h3, m3, h6, m6, h7, m7, h8, m8, h25, h26, h27, hi', hgi, aA, aB]
      refine CallW.sc (p68 (G.B i) lB0 (by omega)) rfl ⟨trivial, trivial⟩ fun r hr => ⟨by subst hr; rfl, ?_⟩
      subst hr
      simp -implicitDefEqProofs only [vqa, Nat.reduceEqDiff, Nat.reduceAdd, reduceIte, Nat.reduceLeDiff, Nat.reduceBEq, Nat.reduceLT, Nat.reduceSub, Int.reduceLT, Int.reduceLE, Int.reduceEq, Int.reduceToNat, Nat.reduceMul, eq_self, implies_true, forall_const, q1, q2, q3, agree_three, h1, h2, h3, m3, h6, m6, h7, m7, h8, m8, h25, h26, h27, hi', hgi, aA, aB]
      subst hz
      exact ⟨hi, wI (by omega) (by omega), _, rfl, AccP.put (AccP.first (by simp) (gateP_and hi (by unfold tabW; rw [pa, pb]; rfl) rfl rfl)) (by simp)⟩
    · subst hx
      obtain rfl : s' = 58 := by simpa using hs'
      simp -implicitDefEqProofs only [vqa, Nat.reduceEqDiff, Nat.reduceAdd, reduceIte, Nat.reduceLeDiff, Nat.reduceBEq, Nat.reduceLT, Nat.reduceSub, Int.reduceLT, Int.reduceLE, Int.reduceEq, Int.reduceToNat, Nat.reduceMul, eq_self, implies_true, forall_const, h1, h2, h3, m3, h6, m6, h7, m7, h8, m8, h25, h26, h27, hi', hgi, aA, aB, hm]
      refine ⟨by omega, ?_⟩
      refine vAny [0, 1, 2, 3, 4, 5, 6, 8, 9, 10, 7, 11, 12, 13, 14, 15, 16, 17] 17 (threeL 7 8 10) (by kernel_rfl) (by kernel_rfl) ?_
      simp -implicitDefEqProofs only [vqa, Nat.reduceEqDiff, Nat.reduceAdd, reduceIte, Nat.reduceLeDiff, Nat.reduceBEq, Nat.reduceLT, Nat.reduceSub, Int.reduceLT, Int.reduceLE, Int.reduceEq, Int.reduceToNat, Nat.reduceMul, eq_self, implies_true, forall_const, q1, q2, q3, h1, h2, h3, m3, h6, m6, h7, m7, h8, m8, h25, h26, h27, hi', hgi, aA, aB, hm]
      try refine ⟨by decide, ?_⟩
      refine CallW.sc (p68 (G.A i) lA0 (by omega)) rfl ⟨trivial, trivial⟩ fun r hr => ⟨by subst hr; rfl, ?_⟩
      subst hr
      simp -implicitDefEqProofs only [vqa, Nat.reduceEqDiff, Nat.reduceAdd, reduceIte, Nat.reduceLeDiff, Nat.reduceBEq, Nat.reduceLT, Nat.reduceSub, Int.reduceLT, Int.reduceLE, Int.reduceEq, Int.reduceToNat, Nat.reduceMul, eq_self, implies_true, forall_const, q1, q2, q3, agree_three, h1, h2, h3, m3, h6, m6, h7, m7, h8, m8, h25, h26, h27, hi', hgi, aA, aB, hm]
      refine CallW.sc (p68 (G.B i) lB0 (by omega)) rfl ⟨trivial, trivial⟩ fun r hr => ⟨by subst hr; rfl, ?_⟩
      subst hr
      simp -implicitDefEqProofs only [vqa, Nat.reduceEqDiff, Nat.reduceAdd, reduceIte, Nat.reduceLeDiff, Nat.reduceBEq, Nat.reduceLT, Nat.reduceSub, Int.reduceLT, Int.reduceLE, Int.reduceEq, Int.reduceToNat, Nat.reduceMul, eq_self, implies_true, forall_const, q1, q2, q3, agree_three, h1, h2, h3, m3, h6, m6, h7, m7, h8, m8, h25, h26, h27, hi', hgi, aA, aB, hm]
      exact ⟨⟨by omega, by omega⟩, hi, wI (by omega) (by omega), _, rfl, AccP.put (AccP.push (by simp) hg (gateP_and hi (by unfold tabW; rw [pa, pb]; rfl) rfl rfl)) (by simp)⟩
    · subst hx
      simp -implicitDefEqProofs only [vqa, Nat.reduceEqDiff, Nat.reduceAdd, reduceIte, Nat.reduceLeDiff, Nat.reduceBEq, Nat.reduceLT, Nat.reduceSub, Int.reduceLT, Int.reduceLE, Int.reduceEq, Int.reduceToNat, Nat.reduceMul, eq_self, implies_true, forall_const, h1, h2, h3, m3, h6, m6, h7, m7, h8, m8, h25, h26, h27, hi', hgi, aA, aB]
      refine ⟨by omega, ?_⟩
      refine vAny [0, 1, 2, 3, 4, 5, 6, 8, 9, 10, 7, 11, 12, 13, 14, 15, 16, 17] 17 (threeL 7 8 10) (by kernel_rfl) (by kernel_rfl) ?_
      simp -implicitDefEqProofs only [vqa, Nat.reduceEqDiff, Nat.reduceAdd, reduceIte, Nat.reduceLeDiff, Nat.reduceBEq, Nat.reduceLT, Nat.reduceSub, Int.reduceLT, Int.reduceLE, Int.reduceEq, Int.reduceToNat, Nat.reduceMul, eq_self, implies_true, forall_const, q1, q2, q3, h1, h2, h3, m3, h6, m6, h7, m7, h8, m8, h25, h26, h27, hi', hgi, aA, aB]
      try refine ⟨by decide, ?_⟩
      refine CallW.sc (p68 (G.A i) lA0 (by omega)) rfl ⟨trivial, trivial⟩ fun r hr => ⟨by subst hr; rfl, ?_⟩
      subst hr
      simp -implicitDefEqProofs only [vqa, Nat.reduceEqDiff, Nat.reduceAdd, reduceIte, Nat.reduceLeDiff, Nat.reduceBEq, Nat.reduceLT, Nat.reduceSub, Int.reduceLT, Int.reduceLE, Int.reduceEq, Int.reduceToNat, Nat.reduceMul, eq_self, implies_true, forall_const, q1, q2, q3, agree_three, h1, h2, h3, m3, h6, m6, h7, m7, h8, m8, h25, h26, h27, hi', hgi, aA, aB]
      refine CallW.sc (p68 (G.B i) lB0 (by omega)) rfl ⟨trivial, trivial⟩ fun r hr => ⟨by subst hr; rfl, ?_⟩
      subst hr
      simp -implicitDefEqProofs only [vqa, Nat.reduceEqDiff, Nat.reduceAdd, reduceIte, Nat.reduceLeDiff, Nat.reduceBEq, Nat.reduceLT, Nat.reduceSub, Int.reduceLT, Int.reduceLE, Int.reduceEq, Int.reduceToNat, Nat.reduceMul, eq_self, implies_true, forall_const, q1, q2, q3, agree_three, h1, h2, h3, m3, h6, m6, h7, m7, h8, m8, h25, h26, h27, hi', hgi, aA, aB]
      subst hz
      exact ⟨hi, wI (by omega) (by omega), _, rfl, AccP.put (AccP.first (by simp) (gateP_and hi (by unfold tabW; rw [pa, pb]; rfl) rfl rfl)) (by simp)⟩
    · subst hx
      obtain rfl : s' = 58 := by simpa using hs'
      simp -implicitDefEqProofs only [vqa, Nat.reduceEqDiff, Nat.reduceAdd, reduceIte, Nat.reduceLeDiff, Nat.reduceBEq, Nat.reduceLT, Nat.reduceSub, Int.reduceLT, Int.reduceLE, Int.reduceEq, Int.reduceToNat, Nat.reduceMul, eq_self, implies_true, forall_const, h1, h2, h3, m3, h6, m6, h7, m7, h8, m8, h25, h26, h27, hi', hgi, aA, aB, hm]
      refine ⟨by omega, ?_⟩
      refine vAny [0, 1, 2, 3, 4, 5, 6, 8, 9, 10, 7, 11, 12, 13, 14, 15, 16, 17] 17 (threeL 7 8 10) (by kernel_rfl) (by kernel_rfl) ?_
      simp -implicitDefEqProofs only [vqa, Nat.reduceEqDiff, Nat.reduceAdd, reduceIte, Nat.reduceLeDiff, Nat.reduceBEq, Nat.reduceLT, Nat.reduceSub, Int.reduceLT, Int.reduceLE, Int.reduceEq, Int.reduceToNat, Nat.reduceMul, eq_self, implies_true, forall_const, q1, q2, q3, h1, h2, h3, m3, h6, m6, h7, m7, h8, m8, h25, h26, h27, hi', hgi, aA, aB, hm]
      try refine ⟨by decide, ?_⟩
      refine CallW.sc (p68 (G.A i) lA0 (by omega)) rfl ⟨trivial, trivial⟩ fun r hr => ⟨by subst hr; rfl, ?_⟩
      subst hr
      simp -implicitDefEqProofs only [vqa, Nat.reduceEqDiff, Nat.reduceAdd, reduceIte, Nat.reduceLeDiff, Nat.reduceBEq, Nat.reduceLT, Nat.reduceSub, Int.reduceLT, Int.reduceLE, Int.reduceEq, Int.reduceToNat, Nat.reduceMul, eq_self, implies_true, forall_const, q1, q2, q3, agree_three, h1, h2, h3, m3, h6, m6, h7, m7, h8, m8, h25, h26, h27, hi', hgi, aA, aB, hm]
      refine CallW.sc (p68 (G.B i) lB0 (by omega)) rfl ⟨trivial, trivial⟩ fun r hr => ⟨by subst hr; rfl, ?_⟩
      subst hr
      simp -implicitDefEqProofs only [vqa, Nat.reduceEqDiff, Nat.reduceAdd, reduceIte, Nat.reduceLeDiff, Nat.reduceBEq, Nat.reduceLT, Nat.reduceSub, Int.reduceLT, Int.reduceLE, Int.reduceEq, Int.reduceToNat, Nat.reduceMul, eq_self, implies_true, forall_const, q1, q2, q3, agree_three, h1, h2, h3, m3, h6, m6, h7, m7, h8, m8, h25, h26, h27, hi', hgi, aA, aB, hm]
      exact ⟨⟨by omega, by omega⟩, hi, wI (by omega) (by omega), _, rfl, AccP.put (AccP.push (by simp) hg (gateP_and hi (by unfold tabW; rw [pa, pb]; rfl) rfl rfl)) (by simp)⟩
    · subst hx
      simp -implicitDefEqProofs only [vqa, Nat.reduceEqDiff, Nat.reduceAdd, reduceIte, Nat.reduceLeDiff, Nat.reduceBEq, Nat.reduceLT, Nat.reduceSub, Int.reduceLT, Int.reduceLE, Int.reduceEq, Int.reduceToNat, Nat.reduceMul, eq_self, implies_true, forall_const, h1, h2, h3, m3, h6, m6, h7, m7, h8, m8, h25, h26, h27, hi', hgi, aA, aB]
      refine ⟨by omega, ?_⟩
      refine vAny [0, 1, 2, 3, 4, 5, 6, 8, 9, 10, 7, 11, 12, 13, 14, 15, 16, 17] 17 (threeL 7 8 10) (by kernel_rfl) (by kernel_rfl) ?_
      simp -implicitDefEqProofs only [vqa, Nat.reduceEqDiff, Nat.reduceAdd, reduceIte, Nat.reduceLeDiff, Nat.reduceBEq, Nat.reduceLT, Nat.reduceSub, Int.reduceLT, Int.reduceLE, Int.reduceEq, Int.reduceToNat, Nat.reduceMul, eq_self, implies_true, forall_const, q1, q2, q3, h1, h2, h3, m3, h6, m6, h7, m7, h8, m8, h25, h26, h27, hi', hgi, aA, aB]
      try refine ⟨by decide, ?_⟩
      refine CallW.sc (p68 (G.A i) lA0 (by omega)) rfl ⟨trivial, trivial⟩ fun r hr => ⟨by subst hr; rfl, ?_⟩
      subst hr
      simp -implicitDefEqProofs only [vqa, Nat.reduceEqDiff, Nat.reduceAdd, reduceIte, Nat.reduceLeDiff, Nat.reduceBEq, Nat.reduceLT, Nat.reduceSub, Int.reduceLT, Int.reduceLE, Int.reduceEq, Int.reduceToNat, Nat.reduceMul, eq_self, implies_true, forall_const, q1, q2, q3, agree_three, h1, h2, h3, m3, h6, m6, h7, m7, h8, m8, h25, h26, h27, hi', hgi, aA, aB]
      refine CallW.sc (p68 (G.B i) lB0 (by omega)) rfl ⟨trivial, trivial⟩ fun r hr => ⟨by subst hr; rfl, ?_⟩
      subst hr
      simp -implicitDefEqProofs only [vqa, Nat.reduceEqDiff, Nat.reduceAdd, reduceIte, Nat.reduceLeDiff, Nat.reduceBEq, Nat.reduceLT, Nat.reduceSub, Int.reduceLT, Int.reduceLE, Int.reduceEq, Int.reduceToNat, Nat.reduceMul, eq_self, implies_true, forall_const, q1, q2, q3, agree_three, h1, h2, h3, m3, h6, m6, h7, m7, h8, m8, h25, h26, h27, hi', hgi, aA, aB]
      subst hz
      exact ⟨hi, wI (by omega) (by omega), _, rfl, AccP.put (AccP.first (by simp) (gateP_and hi (by unfold tabW; rw [pa, pb]; rfl) rfl rfl)) (by simp)⟩
    · subst hx
      obtain rfl : s' = 58 := by simpa using hs'
      simp -implicitDefEqProofs only [vqa, Nat.reduceEqDiff, Nat.reduceAdd, reduceIte, Nat.reduceLeDiff, Nat.reduceBEq, Nat.reduceLT, Nat.reduceSub, Int.reduceLT, Int.reduceLE, Int.reduceEq, Int.reduceToNat, Nat.reduceMul, eq_self, implies_true, forall_const, h1, h2, h3, m3, h6, m6, h7, m7, h8, m8, h25, h26, h27, hi', hgi, aA, aB, hm]
      refine ⟨by omega, ?_⟩
      refine vAny [0, 1, 2, 3, 4, 5, 6, 8, 9, 10, 7, 11, 12, 13, 14, 15, 16, 17] 17 (threeL 7 8 10) (by kernel_rfl) (by kernel_rfl) ?_
      simp -implicitDefEqProofs only [vqa, Nat.reduceEqDiff, Nat.reduceAdd, reduceIte, Nat.reduceLeDiff, Nat.reduceBEq, Nat.reduceLT, Nat.reduceSub, Int.reduceLT, Int.reduceLE, Int.reduceEq, Int.reduceToNat, Nat.reduceMul, eq_self, implies_true, forall_const, q1, q2, q3, h1, h2, h3, m3, h6, m6, h7, m7, h8, m8, h25, h26, h27, hi', hgi, aA, aB, hm]
      try refine ⟨by decide, ?_⟩
      refine CallW.sc (p68 (G.A i) lA0 (by omega)) rfl ⟨trivial, trivial⟩ fun r hr => ⟨by subst hr; rfl, ?_⟩
      subst hr
      simp -implicitDefEqProofs only [vqa, Nat.reduceEqDiff, Nat.reduceAdd, reduceIte, Nat.reduceLeDiff, Nat.reduceBEq, Nat.reduceLT, Nat.reduceSub, Int.reduceLT, Int.reduceLE, Int.reduceEq, Int.reduceToNat, Nat.reduceMul, eq_self, implies_true, forall_const, q1, q2, q3, agree_three, h1, h2, h3, m3, h6, m6, h7, m7, h8, m8, h25, h26, h27, hi', hgi, aA, aB, hm]
      refine CallW.sc (p68 (G.B i) lB0 (by omega)) rfl ⟨trivial, trivial⟩ fun r hr => ⟨by subst hr; rfl, ?_⟩
      subst hr
      simp -implicitDefEqProofs only [vqa, Nat.reduceEqDiff, Nat.reduceAdd, reduceIte, Nat.reduceLeDiff, Nat.reduceBEq, Nat.reduceLT, Nat.reduceSub, Int.reduceLT, Int.reduceLE, Int.reduceEq, Int.reduceToNat, Nat.reduceMul, eq_self, implies_true, forall_const, q1, q2, q3, agree_three, h1, h2, h3, m3, h6, m6, h7, m7, h8, m8, h25, h26, h27, hi', hgi, aA, aB, hm]
      exact ⟨⟨by omega, by omega⟩, hi, wI (by omega) (by omega), _, rfl, AccP.put (AccP.push (by simp) hg (gateP_and hi (by unfold tabW; rw [pa, pb]; rfl) rfl rfl)) (by simp)⟩
  · rintro e m ⟨h1, h2, h3, m3, h6, m6, h7, h8, m8, h25, h26, h27, x3, m7, hA⟩
    unfold a34_0
    simp -implicitDefEqProofs only [vqa, Nat.reduceEqDiff, Nat.reduceAdd, reduceIte, Nat.reduceLeDiff, Nat.reduceBEq, Nat.reduceLT, Nat.reduceSub, Int.reduceLT, Int.reduceLE, Int.reduceEq, Int.reduceToNat, Nat.reduceMul, eq_self, implies_true, forall_const, h1, h2, h3, m3, h6, m6, h7, m7, h8, m8, h25, h26, h27]
    generalize (m 12).ver + 1 = V12
    have hsg : (G.na = 0 ∧ sg G = 1036) ∨ (0 < G.na ∧ sg G = 58) := by unfold sg; split <;> omega
    have hA0 : AccP [sg G] 127 3 G.na (gateP G []) x3 m := by
      obtain ⟨hz, hx⟩ | ⟨s', sv, gg, hs', hx, hm, hg, hgn⟩ := hA
      · exact .inl ⟨hz, hx⟩
      · obtain rfl : s' = 58 := by simpa using hs'
        exact .inr ⟨58, sv, gg, by simp <;> omega, hx, hm, hg, hgn⟩
    refine vFor G.nk (fun i e m => e 1 = .fs G.nr fd ∧ e 2 = .fs G.nr fe ∧ e 3 = .ptr 3 V3 0 ∧ m 3 = .var V3 [.fs G.ni f0, .fs G.no f1, .fs G.nr f2, .fs G.na f3, .fs G.nk f4] ∧ e 6 = .ptr 6 V6 0 ∧ m 6 = .var V6 [.cap0, .cap0, .cap0, .cap0, .cap0] ∧ e 7 = .ptr 7 V7 0 ∧ e 13 = .fn 69 [.ptr 8 V8 0, .ptr 12 V12 0, .ptr 7 V7 0, .ptr 3 V3 0] ∧ e 63 = .fs G.nk f4 ∧ e 64 = .int .i64 G.nk ∧ e 65 = .int .i64 i ∧ ∃ xo, PlS G d en i V7 V8 V12 (.fs G.ni f0) (.fs G.no f1) .cap0 xo m ∧ AccP [75] 3 1 i (outP (withN G d en)) xo m) ?_ ?_ ?_
    · simp -implicitDefEqProofs only [vqa, Nat.reduceEqDiff, Nat.reduceAdd, reduceIte, Nat.reduceLeDiff, Nat.reduceBEq, Nat.reduceLT, Nat.reduceSub, Int.reduceLT, Int.reduceLE, Int.reduceEq, Int.reduceToNat, Nat.reduceMul, eq_self, implies_true, forall_const, h1, h2, h3, m3, h6, m6, h7, m7, h8, m8]
      refine ⟨_, ⟨_, _, ?_, ?_, ?_, .inl ⟨rfl, rfl⟩, hA0.put ?_⟩, .inl ⟨rfl, rfl⟩⟩
      · rw [set_ne (by decide)]; exact m8
      · rw [set_same]
      · rw [set_ne (by decide)]; exact m7
      · simp <;> omega
    · rintro i e m hi hi' ⟨h1, h2, h3, m3, h6, m6, h7, h13, h63, h64, h65, xo, hP, hO⟩
      have hfi := g4 i hi
      have hPc := hP
      obtain ⟨tv, x3, m8, m12, m7, hU, hA⟩ := hP
      unfold a34_1
      simp -implicitDefEqProofs only [vqa, Nat.reduceEqDiff, Nat.reduceAdd, reduceIte, Nat.reduceLeDiff, Nat.reduceBEq, Nat.reduceLT, Nat.reduceSub, Int.reduceLT, Int.reduceLE, Int.reduceEq, Int.reduceToNat, Nat.reduceMul, eq_self, implies_true, forall_const, h1, h2, h3, m3, h6, m6, h7, h13, h63, h64, h65, hi', hfi]
      refine ⟨by omega, ?_⟩
      refine vAnyR [0, 1, 2, 3, 4, 5, 6, 7, 8] 8 (fun m => ∃ y, m 7 = .var V7 [.fs G.ni f0, .fs G.no f1, .cap0, y, xo]) (by kernel_rfl) (by kernel_rfl) ⟨x3, m7⟩ ?_
      simp -implicitDefEqProofs only [vqa, Nat.reduceEqDiff, Nat.reduceAdd, reduceIte, Nat.reduceLeDiff, Nat.reduceBEq, Nat.reduceLT, Nat.reduceSub, Int.reduceLT, Int.reduceLE, Int.reduceEq, Int.reduceToNat, Nat.reduceMul, eq_self, implies_true, forall_const, srNil, srCons, srOV, srVS, srOC, srCS, srK_at, srOE, srES, AOp.pureB, h1, h2, h3, m3, h6, m6, h7, m7, h13, h63, h64, h65]
      have lv : ∀ (c : Nat) (v : AV), v = ([.fs G.ni f0, .fs G.no f1, .cap0, .undef, xo] : List AV).getD c .undef → True := fun _ _ _ => trivial
      refine ⟨fun m ⟨y, hy⟩ => by rw [hy]; exact ⟨_, rfl, rfl⟩, fun m ⟨y, hy⟩ => by rw [hy]; exact ⟨_, rfl, rfl⟩, ?_⟩
      refine (hPc.call hG0 gd m3 (by omega) (G.outs i) (qW_out hi).symm (gd.outs i hi)).mono fun v m' ⟨hv, hP', hF⟩ => ?_
      subst hv
      have hO' := hO.keep (m' := m') fun k hk => by
        obtain rfl : k = 75 := by simpa using hk
        exact hF 75 (by decide) (by decide) (by decide) (by decide)
      have n3 := (hF 3 (by decide) (by decide) (by decide) (by decide)).trans m3
      have n6 := (hF 6 (by decide) (by decide) (by decide) (by decide)).trans m6
      obtain ⟨tv', x3', q8, q12, q7, qU, qA⟩ := hP'
      have fin : ∀ (xn : AV) (mm : Mem), (∀ k, k ≠ 7 → k ≠ 74 → k ≠ 75 → mm k = m' k) → mm 7 = .var V7 [.fs G.ni f0, .fs G.no f1, .cap0, x3', xn] → PlS G d en (i + 1) V7 V8 V12 (.fs G.ni f0) (.fs G.no f1) .cap0 xn mm := fun xn mm hk h7 => by
        refine ⟨tv', x3', by rw [hk 8 (by decide) (by decide) (by decide)]; exact q8, by rw [hk 12 (by decide) (by decide) (by decide)]; exact q12, h7, qU.keep fun k h => ?_, qA.keep fun k h => ?_⟩
        · obtain rfl : k = 1027 := by simpa using h
          exact hk _ (by decide) (by decide) (by decide)
        · obtain rfl : k = sg G := by simpa using h
          exact hk _ (by omega) (by omega) (by omega)
      obtain ⟨hz, rfl⟩ | ⟨s', sv, gg, hs', rfl, hm, hg, hgn⟩ := hO'
      · subst hz
        simp -implicitDefEqProofs only [vqa, Nat.reduceEqDiff, Nat.reduceAdd, reduceIte, Nat.reduceLeDiff, Nat.reduceBEq, Nat.reduceLT, Nat.reduceSub, Int.reduceLT, Int.reduceLE, Int.reduceEq, Int.reduceToNat, Nat.reduceMul, eq_self, implies_true, forall_const, srNil, srCons, srOV, srVS, srOC, srCS, srK_at, srOE, srES, AOp.pureB, h1, h2, h3, h6, h7, h13, h63, h64, h65, q7]
        refine ⟨⟨x3', rfl⟩, ⟨x3', rfl⟩, ⟨x3', rfl⟩, fun m ⟨y, hy⟩ => by rw [hy]; exact ⟨_, rfl, rfl⟩, ?_⟩
        refine ⟨by omega, n3, n6, wI (by decide) (by decide), _, fin _ _ (fun k k1 k2 k3 => by rw [set_ne k1, set_ne k3, set_ne k2]) (set_same _ _ _), AccP.put (AccP.first (by simp) rfl) (by simp)⟩
      · obtain rfl : s' = 75 := by simpa using hs'
        simp -implicitDefEqProofs only [vqa, Nat.reduceEqDiff, Nat.reduceAdd, reduceIte, Nat.reduceLeDiff, Nat.reduceBEq, Nat.reduceLT, Nat.reduceSub, Int.reduceLT, Int.reduceLE, Int.reduceEq, Int.reduceToNat, Nat.reduceMul, eq_self, implies_true, forall_const, srNil, srCons, srOV, srVS, srOC, srCS, srK_at, srOE, srES, AOp.pureB, h1, h2, h3, h6, h7, h13, h63, h64, h65, q7, hm]
        refine ⟨⟨x3', rfl⟩, ⟨x3', rfl⟩, ⟨by omega, by omega⟩, ⟨x3', rfl⟩, fun m ⟨y, hy⟩ => by rw [hy]; exact ⟨_, rfl, rfl⟩, ?_⟩
        refine ⟨by omega, n3, n6, wI (by omega) (by omega), _, fin _ _ (fun k k1 k2 k3 => by rw [set_ne k1, set_ne k3, set_ne k2]) (set_same _ _ _), AccP.put (AccP.push (by simp) hg rfl) (by simp)⟩
    · rintro e m ⟨h1, h2, h3, m3, h6, m6, h7, h13, h63, h64, h65, xo, hP, hO⟩
      unfold a34_1
      simp -implicitDefEqProofs only [vqa, Nat.reduceEqDiff, Nat.reduceAdd, reduceIte, Nat.reduceLeDiff, Nat.reduceBEq, Nat.reduceLT, Nat.reduceSub, Int.reduceLT, Int.reduceLE, Int.reduceEq, Int.reduceToNat, Nat.reduceMul, eq_self, implies_true, forall_const, h1, h2, h3, m3, h6, m6, h7, h13, h63, h64, h65]
      refine vFor G.nr (fun i e m => e 1 = .fs G.nr fd ∧ e 2 = .fs G.nr fe ∧ e 3 = .ptr 3 V3 0 ∧ m 3 = .var V3 [.fs G.ni f0, .fs G.no f1, .fs G.nr f2, .fs G.na f3, .fs G.nk f4] ∧ e 6 = .ptr 6 V6 0 ∧ m 6 = .var V6 [.cap0, .cap0, .cap0, .cap0, .cap0] ∧ e 7 = .ptr 7 V7 0 ∧ e 13 = .fn 69 [.ptr 8 V8 0, .ptr 12 V12 0, .ptr 7 V7 0, .ptr 3 V3 0] ∧ e 79 = .fs G.nr f2 ∧ e 80 = .int .i64 G.nr ∧ e 81 = .int .i64 i ∧ AccP [75] 3 1 G.nk (outP (withN G d en)) xo m ∧ ∃ xf, PlS G d en (G.nk + 2 * i) V7 V8 V12 (.fs G.ni f0) (.fs G.no f1) xf xo m ∧ AccP [109] 129 5 i (flopP (withN G d en)) xf m) ?_ ?_ ?_
      · simp -implicitDefEqProofs only [vqa, Nat.reduceEqDiff, Nat.reduceAdd, reduceIte, Nat.reduceLeDiff, Nat.reduceBEq, Nat.reduceLT, Nat.reduceSub, Int.reduceLT, Int.reduceLE, Int.reduceEq, Int.reduceToNat, Nat.reduceMul, eq_self, implies_true, forall_const, h1, h2, h3, m3, h6, m6, h7, h13]
        exact ⟨hO, _, hP, .inl ⟨rfl, rfl⟩⟩
      · rintro i e m hi hi' ⟨h1, h2, h3, m3, h6, m6, h7, h13, h79, h80, h81, hO, xf, hP, hQ⟩
        have hfi := g2 i hi
        have hdi := hd i hi
        have hei := he i hi
        unfold RegV.av at hfi
        unfold a34_2
        simp -implicitDefEqProofs only [vqa, Nat.reduceEqDiff, Nat.reduceAdd, reduceIte, Nat.reduceLeDiff, Nat.reduceBEq, Nat.reduceLT, Nat.reduceSub, Int.reduceLT, Int.reduceLE, Int.reduceEq, Int.reduceToNat, Nat.reduceMul, eq_self, implies_true, forall_const, h1, h2, h3, m3, h6, m6, h7, h13, h79, h80, h81, hi', hfi, hdi]
        refine ⟨by omega, by omega, ?_⟩
        generalize (m 17).ver + 1 = V17
        generalize (m 18).ver + 1 = V18
        have hP1 := hP.keep (m' := Mem.set 18 (.var V18 [.str (G.reg i).name, .int .i64 (-1), .int .i64 0, .int .i64 0, .bool (G.reg i).init]) (Mem.set 18 (.var V18 [.str ⟨#[]⟩, .int .i64 0, .int .i64 0, .int .i64 0, .bool false]) (Mem.set 17 (.var V17 [.str (G.reg i).name, .int .i64 (G.reg i).next, .bool (G.reg i).init]) (Mem.set 17 (.var V17 [.str ⟨#[]⟩, .int .i64 0, .bool false]) m)))) fun j hj => by rw [set_ne (by omega), set_ne (by omega), set_ne (by omega), set_ne (by omega)]
        refine (hP1.call hG0 gd (by rw [set_ne (by decide), set_ne (by decide), set_ne (by decide), set_ne (by decide)]; exact m3) (by omega) (d i) (qW_d i).symm (kd i hi)).mono fun v m2 ⟨hv, hP2, hF⟩ => ?_
        subst hv
        have n18 := hF 18 (by decide) (by decide) (by decide) (by decide)
        rw [set_same] at n18
        have hF2 : ∀ j, j < 1000 → j ≠ 12 → j ≠ 7 → j ≠ 58 → j ≠ 17 → j ≠ 18 → m2 j = m j := fun j a1 a2 a3 a4 a5 a6 => by rw [hF j a1 a2 a3 a4, set_ne a6, set_ne a6, set_ne a5, set_ne a5]
        have p3 := (hF2 3 (by decide) (by decide) (by decide) (by decide) (by decide) (by decide)).trans m3
        have p6 := (hF2 6 (by decide) (by decide) (by decide) (by decide) (by decide) (by decide)).trans m6
        simp -implicitDefEqProofs only [vqa, Nat.reduceEqDiff, Nat.reduceAdd, reduceIte, Nat.reduceLeDiff, Nat.reduceBEq, Nat.reduceLT, Nat.reduceSub, Int.reduceLT, Int.reduceLE, Int.reduceEq, Int.reduceToNat, Nat.reduceMul, eq_self, implies_true, forall_const, h1, h2, h3, h6, h7, h13, h79, h80, h81, n18, hei]
        refine ⟨by omega, ?_⟩
        have hP3 := hP2.keep (m' := Mem.set 18 (.var V18 [.str (G.reg i).name, .int .i64 (-1), .int .i64 (getL G.nb (tEnd G d en) (d i)), .int .i64 0, .bool (G.reg i).init]) m2) fun j hj => by rw [set_ne (by omega)]
        refine (hP3.call hG0 gd (by rw [set_ne (by decide)]; exact p3) (by omega) (en i) (qW_en i).symm (ke i hi)).mono fun v m4 ⟨hv, hP4, hF4⟩ => ?_
        subst hv
        have r18 := hF4 18 (by decide) (by decide) (by decide) (by decide)
        rw [set_same] at r18
        have hF5 : ∀ j, j < 1000 → j ≠ 12 → j ≠ 7 → j ≠ 58 → j ≠ 17 → j ≠ 18 → m4 j = m j := fun j a1 a2 a3 a4 a5 a6 => by rw [hF4 j a1 a2 a3 a4, set_ne a6, hF2 j a1 a2 a3 a4 a5 a6]
        have r3 := (hF5 3 (by decide) (by decide) (by decide) (by decide) (by decide) (by decide)).trans m3
        have r6 := (hF5 6 (by decide) (by decide) (by decide) (by decide) (by decide) (by decide)).trans m6
        have hO4 := hO.keep (m' := m4) fun k hk => by
          obtain rfl : k = 75 := by simpa using hk
          exact hF5 75 (by decide) (by decide) (by decide) (by decide) (by decide) (by decide)
        have hQ4 := hQ.keep (m' := m4) fun k hk => by
          obtain rfl : k = 109 := by simpa using hk
          exact hF5 109 (by decide) (by decide) (by decide) (by decide) (by decide) (by decide)
        obtain ⟨tv', x3', q8, q12, q7, qU, qA⟩ := hP4
        have fin : ∀ (xn : AV) (mm : Mem), (∀ k, k ≠ 7 → k ≠ 18 → k ≠ 108 → k ≠ 109 → mm k = m4 k) → mm 7 = .var V7 [.fs G.ni f0, .fs G.no f1, xn, x3', xo] → PlS G d en (G.nk + 2 * (i + 1)) V7 V8 V12 (.fs G.ni f0) (.fs G.no f1) xn xo mm := fun xn mm hk h7 => by
          refine ⟨tv', x3', by rw [hk 8 (by decide) (by decide) (by decide) (by decide)]; exact q8, by rw [hk 12 (by decide) (by decide) (by decide) (by decide)]; exact q12, h7, qU.keep fun k h => ?_, qA.keep fun k h => ?_⟩
          · obtain rfl : k = 1027 := by simpa using h
            exact hk _ (by decide) (by decide) (by decide) (by decide)
          · obtain rfl : k = sg G := by simpa using h
            exact hk _ (by omega) (by omega) (by omega) (by omega)
        obtain ⟨hz, rfl⟩ | ⟨s', sv, gg, hs', rfl, hm, hg, hgn⟩ := hQ4
        · subst hz
          simp -implicitDefEqProofs only [vqa, Nat.reduceEqDiff, Nat.reduceAdd, reduceIte, Nat.reduceLeDiff, Nat.reduceBEq, Nat.reduceLT, Nat.reduceSub, Int.reduceLT, Int.reduceLE, Int.reduceEq, Int.reduceToNat, Nat.reduceMul, eq_self, implies_true, forall_const, h1, h2, h3, h6, h7, h13, h79, h80, h81, r18, q7]
          exact ⟨by omega, r3, r6, wI (by decide) (by decide), (((hO4.put (by simp)).put (by simp)).put (by simp)).put (by simp), _, fin _ _ (fun k k1 k2 k3 k4 => by rw [set_ne k1, set_ne k4, set_ne k3, set_ne k2]) (set_same _ _ _), AccP.put (AccP.first (by simp) rfl) (by simp)⟩
        · obtain rfl : s' = 109 := by simpa using hs'
          simp -implicitDefEqProofs only [vqa, Nat.reduceEqDiff, Nat.reduceAdd, reduceIte, Nat.reduceLeDiff, Nat.reduceBEq, Nat.reduceLT, Nat.reduceSub, Int.reduceLT, Int.reduceLE, Int.reduceEq, Int.reduceToNat, Nat.reduceMul, eq_self, implies_true, forall_const, h1, h2, h3, h6, h7, h13, h79, h80, h81, r18, q7, hm]
          exact ⟨⟨by omega, by omega⟩, by omega, r3, r6, wI (by omega) (by omega), (((hO4.put (by simp)).put (by simp)).put (by simp)).put (by simp), _, fin _ _ (fun k k1 k2 k3 k4 => by rw [set_ne k1, set_ne k4, set_ne k3, set_ne k2]) (set_same _ _ _), AccP.put (AccP.push (by simp) hg rfl) (by simp)⟩
      · rintro e m ⟨h1, h2, h3, m3, h6, m6, h7, h13, h79, h80, h81, hO, xf, hP, hQ⟩
        obtain ⟨tv', x3', q8, q12, q7, qU, qA⟩ := hP
        have fin : ∀ (fa fb fc : Nat → AV), (∀ i, i < G.nr → flopP (withN G d en) i (fa i)) → (∀ i, i < G.na + (tEnd G d en).length → gateP G (tEnd G d en) i (fb i)) → (∀ i, i < G.nk → outP (withN G d en) i (fc i)) → NetA (.agg [.fs G.ni f0, .fs G.no f1, .fs G.nr fa, .fs (G.na + (tEnd G d en).length) fb, .fs G.nk fc]) (withN G d en) := fun fa fb fc ha hb hc => ⟨_, rfl, f0, f1, fa, fb, fc, rfl, g0, g1, ha, hb, hc⟩
        have eE : tW G d en (G.nk + 2 * G.nr) = tEnd G d en := rfl
        rw [eE] at qA
        have z1 : sg G ≠ 6 := by omega
        have z2 : sg G ≠ 75 := by omega
        have z3 : sg G ≠ 109 := by omega
        unfold a34_2
        obtain ⟨a1, a2⟩ | ⟨aa, av, ag, aa', a2, am, ag', an⟩ := hO
        all_goals obtain ⟨c1, c2⟩ | ⟨cs, cv, cg, cs', c2, cm, cg', cn⟩ := hQ
        all_goals obtain ⟨d1, d2⟩ | ⟨ds, dv, dg, ds', d2, dm, dg', dn⟩ := qA
        all_goals subst a2
        all_goals subst c2
        all_goals subst d2
        · simp -implicitDefEqProofs only [vqa, Nat.reduceEqDiff, Nat.reduceAdd, reduceIte, Nat.reduceLeDiff, Nat.reduceBEq, Nat.reduceLT, Nat.reduceSub, Int.reduceLT, Int.reduceLE, Int.reduceEq, Int.reduceToNat, Nat.reduceMul, eq_self, implies_true, forall_const, h1, h2, h3, m3, h6, m6, h7, h13, h79, h80, h81, q7, z1, z2, z3, Ne.symm z1, Ne.symm z2, Ne.symm z3]
          have := fin (fun _ => .undef) (fun _ => .undef) (fun _ => .undef) (fun i hi => by omega) (fun i hi => by omega) (fun i hi => by omega)
          rw [d1] at this
          rw [c1] at this
          rw [a1] at this
          exact this
        · obtain rfl : ds = sg G := by simpa using ds'
          simp -implicitDefEqProofs only [vqa, Nat.reduceEqDiff, Nat.reduceAdd, reduceIte, Nat.reduceLeDiff, Nat.reduceBEq, Nat.reduceLT, Nat.reduceSub, Int.reduceLT, Int.reduceLE, Int.reduceEq, Int.reduceToNat, Nat.reduceMul, eq_self, implies_true, forall_const, h1, h2, h3, m3, h6, m6, h7, h13, h79, h80, h81, q7, z1, z2, z3, Ne.symm z1, Ne.symm z2, Ne.symm z3, dm]
          have := fin (fun _ => .undef) dg (fun _ => .undef) (fun i hi => by omega) dg' (fun i hi => by omega)
          rw [c1] at this
          rw [a1] at this
          exact this
        · obtain rfl : cs = 109 := by simpa using cs'
          simp -implicitDefEqProofs only [vqa, Nat.reduceEqDiff, Nat.reduceAdd, reduceIte, Nat.reduceLeDiff, Nat.reduceBEq, Nat.reduceLT, Nat.reduceSub, Int.reduceLT, Int.reduceLE, Int.reduceEq, Int.reduceToNat, Nat.reduceMul, eq_self, implies_true, forall_const, h1, h2, h3, m3, h6, m6, h7, h13, h79, h80, h81, q7, z1, z2, z3, Ne.symm z1, Ne.symm z2, Ne.symm z3, cm]
          have := fin cg (fun _ => .undef) (fun _ => .undef) cg' (fun i hi => by omega) (fun i hi => by omega)
          rw [d1] at this
          rw [a1] at this
          exact this
        · obtain rfl : cs = 109 := by simpa using cs'
          obtain rfl : ds = sg G := by simpa using ds'
          simp -implicitDefEqProofs only [vqa, Nat.reduceEqDiff, Nat.reduceAdd, reduceIte, Nat.reduceLeDiff, Nat.reduceBEq, Nat.reduceLT, Nat.reduceSub, Int.reduceLT, Int.reduceLE, Int.reduceEq, Int.reduceToNat, Nat.reduceMul, eq_self, implies_true, forall_const, h1, h2, h3, m3, h6, m6, h7, h13, h79, h80, h81, q7, z1, z2, z3, Ne.symm z1, Ne.symm z2, Ne.symm z3, cm, dm]
          have := fin cg dg (fun _ => .undef) cg' dg' (fun i hi => by omega)
          rw [a1] at this
          exact this
        · obtain rfl : aa = 75 := by simpa using aa'
          simp -implicitDefEqProofs only [vqa, Nat.reduceEqDiff, Nat.reduceAdd, reduceIte, Nat.reduceLeDiff, Nat.reduceBEq, Nat.reduceLT, Nat.reduceSub, Int.reduceLT, Int.reduceLE, Int.reduceEq, Int.reduceToNat, Nat.reduceMul, eq_self, implies_true, forall_const, h1, h2, h3, m3, h6, m6, h7, h13, h79, h80, h81, q7, z1, z2, z3, Ne.symm z1, Ne.symm z2, Ne.symm z3, am]
          have := fin (fun _ => .undef) (fun _ => .undef) ag (fun i hi => by omega) (fun i hi => by omega) ag'
          rw [d1] at this
          rw [c1] at this
          exact this
        · obtain rfl : aa = 75 := by simpa using aa'
          obtain rfl : ds = sg G := by simpa using ds'
          simp -implicitDefEqProofs only [vqa, Nat.reduceEqDiff, Nat.reduceAdd, reduceIte, Nat.reduceLeDiff, Nat.reduceBEq, Nat.reduceLT, Nat.reduceSub, Int.reduceLT, Int.reduceLE, Int.reduceEq, Int.reduceToNat, Nat.reduceMul, eq_self, implies_true, forall_const, h1, h2, h3, m3, h6, m6, h7, h13, h79, h80, h81, q7, z1, z2, z3, Ne.symm z1, Ne.symm z2, Ne.symm z3, am, dm]
          have := fin (fun _ => .undef) dg ag (fun i hi => by omega) dg' ag'
          rw [c1] at this
          exact this
        · obtain rfl : aa = 75 := by simpa using aa'
          obtain rfl : cs = 109 := by simpa using cs'
          simp -implicitDefEqProofs only [vqa, Nat.reduceEqDiff, Nat.reduceAdd, reduceIte, Nat.reduceLeDiff, Nat.reduceBEq, Nat.reduceLT, Nat.reduceSub, Int.reduceLT, Int.reduceLE, Int.reduceEq, Int.reduceToNat, Nat.reduceMul, eq_self, implies_true, forall_const, h1, h2, h3, m3, h6, m6, h7, h13, h79, h80, h81, q7, z1, z2, z3, Ne.symm z1, Ne.symm z2, Ne.symm z3, am, cm]
          have := fin cg (fun _ => .undef) ag cg' (fun i hi => by omega) ag'
          rw [d1] at this
          exact this
        · obtain rfl : aa = 75 := by simpa using aa'
          obtain rfl : cs = 109 := by simpa using cs'
          obtain rfl : ds = sg G := by simpa using ds'
          simp -implicitDefEqProofs only [vqa, Nat.reduceEqDiff, Nat.reduceAdd, reduceIte, Nat.reduceLeDiff, Nat.reduceBEq, Nat.reduceLT, Nat.reduceSub, Int.reduceLT, Int.reduceLE, Int.reduceEq, Int.reduceToNat, Nat.reduceMul, eq_self, implies_true, forall_const, h1, h2, h3, m3, h6, m6, h7, h13, h79, h80, h81, q7, z1, z2, z3, Ne.symm z1, Ne.symm z2, Ne.symm z3, am, cm, dm]
          have := fin cg dg ag cg' dg' ag'
          exact this
end Go.Ab
