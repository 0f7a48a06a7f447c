/- Walks: Strash, Hashed. -/
import Derived.Test.YtodncnlnadgkhabSaGMoved2
import Derived.Test.YtodncnlnadgkhabSaGNil
set_option linter.unusedSimpArgs false
set_option linter.unusedVariables false
namespace Go.Ab
open Go
def a40_0 : AC := (.seq (.ops [⟨(some 25), none, (.v (.bin .lss (.t 24) (.t 23)))⟩]) (.seq (.cond (.t 25) .skip (.exit 0)) (.seq (.block 1 (.seq (.ops [⟨(some 26), none, (.v (.mv (.t 24)))⟩, ⟨(some 8), none, (.v (.mv (.t 26)))⟩]) (.ops [⟨(some 27), none, (.v (.mv (.t 7)))⟩, ⟨(some 28), none, (.v (.mv (.t 8)))⟩, ⟨(some 29), none, (.v (.bin .mul (.c (.int .i64 2)) (.t 28)))⟩, ⟨(some 30), none, (.e (.lit 30 28 1 1 [(.int .i64 0)] [(0, (.t 29))]))⟩, ⟨(some 31), none, (.e (.app 31 28 1 8 (.t 27) (.t 30)))⟩, ⟨(some 7), none, (.v (.mv (.t 31)))⟩]))) (.ops [⟨(some 32), none, (.v (.bin .add (.t 24) (.c (.int .i64 1))))⟩, ⟨(some 24), none, (.v (.mv (.t 32)))⟩]))))
def a40_1 : AC := (.seq (.ops [⟨(some 37), none, (.v (.bin .lss (.t 36) (.t 35)))⟩]) (.seq (.cond (.t 37) .skip (.exit 2)) (.seq (.block 3 (.seq (.ops [⟨(some 38), none, (.v (.idx 2 (.t 34) (.t 36)))⟩, ⟨(some 39), none, (.v (.load 2 true (.t 38)))⟩, ⟨(some 10), none, (.e (.alloc 10 [(.int .i64 0), (.int .i64 0)]))⟩, ⟨none, none, (.e (.store 2 (.t 10) (.t 39)))⟩]) (.any [⟨(some 40), none, (.v (.mv (.t 7)))⟩, ⟨(some 41), none, (.v (.mv (.t 6)))⟩, ⟨(some 42), none, (.v (.mv (.t 7)))⟩, ⟨(some 43), none, (.v (.fld 0 (.t 10)))⟩, ⟨(some 44), none, (.v (.load 1 false (.t 43)))⟩, ⟨(some 45), none, (.v (.bin .quo (.t 44) (.c (.int .i64 2))))⟩, ⟨(some 46), none, (.v (.idx 1 (.t 42) (.t 45)))⟩, ⟨(some 47), none, (.v (.load 1 false (.t 46)))⟩, ⟨(some 48), none, (.v (.fld 0 (.t 10)))⟩, ⟨(some 49), none, (.v (.load 1 false (.t 48)))⟩, ⟨(some 50), none, (.v (.bin .rem (.t 49) (.c (.int .i64 2))))⟩, ⟨(some 51), none, (.v (.bin .xor (.t 47) (.t 50)))⟩, ⟨(some 52), none, (.v (.mv (.t 7)))⟩, ⟨(some 53), none, (.v (.fld 1 (.t 10)))⟩, ⟨(some 54), none, (.v (.load 1 false (.t 53)))⟩, ⟨(some 55), none, (.v (.bin .quo (.t 54) (.c (.int .i64 2))))⟩, ⟨(some 56), none, (.v (.idx 1 (.t 52) (.t 55)))⟩, ⟨(some 57), none, (.v (.load 1 false (.t 56)))⟩, ⟨(some 58), none, (.v (.fld 1 (.t 10)))⟩, ⟨(some 59), none, (.v (.load 1 false (.t 58)))⟩, ⟨(some 60), none, (.v (.bin .rem (.t 59) (.c (.int .i64 2))))⟩, ⟨(some 61), none, (.v (.bin .xor (.t 57) (.t 60)))⟩, ⟨(some 62), none, (.call (.c (.fn 83 [])) [(.t 41), (.t 51), (.t 61)])⟩, ⟨(some 63), none, (.e (.lit 63 28 1 1 [(.int .i64 0)] [(0, (.t 62))]))⟩, ⟨(some 64), none, (.e (.app 64 28 1 8 (.t 40) (.t 63)))⟩, ⟨(some 7), none, (.v (.mv (.t 64)))⟩] [[], [], [], [], [3], [4], [2, 5], [6], [], [8], [9], [7, 10], [], [], [13], [14], [12, 15], [16], [], [18], [19], [17, 20], [1, 11, 21], [22], [0, 23, 22], [24, 24, 0, 1, 2, 3, 4, 5, 6, 7, 8, 9, 10, 11, 12, 13, 14, 15, 16, 17, 18, 19, 20, 21, 22, 23, 24]]))) (.ops [⟨(some 65), none, (.v (.bin .add (.t 36) (.c (.int .i64 1))))⟩, ⟨(some 36), none, (.v (.mv (.t 65)))⟩]))))
def a40 : AC := (.seq (.ops [⟨(some 1), none, (.e (.box 1 0 (.t 0)))⟩, ⟨(some 2), none, (.e (.alloc 2 [.cap0, .cap0, .cap0, .cap0, .cap0]))⟩, ⟨(some 3), none, (.v (.mv (.c .cap0)))⟩, ⟨(some 4), none, (.v (.mv (.c (.int .i64 0))))⟩]) (.seq (.seq (.ops [⟨(some 11), none, (.v (.load 5 true (.t 1)))⟩, ⟨(some 12), none, (.call (.c (.fn 29 [])) [(.t 11)])⟩, ⟨(some 5), none, (.v (.mv (.t 12)))⟩]) (.seq (.ops [⟨(some 13), none, (.v (.mv (.t 5)))⟩, ⟨(some 14), none, (.v (.bin .neq (.t 13) (.c (.int .i64 0))))⟩]) (.cond (.t 14) (.seq (.ops [⟨(some 15), none, (.v (.build [.cap0, .cap0, .cap0, .cap0, .cap0] []))⟩, ⟨(some 16), none, (.v (.mv (.t 5)))⟩, ⟨none, none, (.e (.store 5 (.t 2) (.t 15)))⟩, ⟨(some 3), none, (.v (.mv (.c .cap0)))⟩, ⟨(some 4), none, (.v (.mv (.t 16)))⟩]) .ret) .skip))) (.seq (.ops [⟨(some 17), none, (.v (.fld 0 (.t 1)))⟩, ⟨(some 18), none, (.v (.load 1 false (.t 17)))⟩, ⟨(some 19), none, (.v (.fld 2 (.t 1)))⟩, ⟨(some 20), none, (.v (.load 1 false (.t 19)))⟩, ⟨(some 21), none, (.call (.c (.fn 68 [])) [(.t 18), (.t 20)])⟩, ⟨(some 6), none, (.v (.mv (.t 21)))⟩]) (.seq (.ops [⟨(some 7), none, (.v (.mv (.c .cap0)))⟩]) (.seq (.seq (.ops [⟨(some 22), none, (.v (.load 5 true (.t 1)))⟩, ⟨(some 23), none, (.call (.c (.fn 24 [])) [(.t 22)])⟩, ⟨(some 24), none, (.v (.mv (.c (.int .i64 0))))⟩]) (.block 0 (.loop a40_0))) (.seq (.seq (.ops [⟨(some 33), none, (.v (.fld 3 (.t 1)))⟩, ⟨(some 34), none, (.v (.load 1 false (.t 33)))⟩, ⟨(some 35), none, (.v (.len (.t 34)))⟩, ⟨(some 36), none, (.v (.mv (.c (.int .i64 0))))⟩]) (.block 2 (.loop a40_1))) (.seq (.any [⟨(some 66), none, (.v (.load 5 true (.t 1)))⟩, ⟨(some 67), none, (.v (.mv (.t 6)))⟩, ⟨(some 68), none, (.v (.nilck (.t 67)))⟩, ⟨(some 69), none, (.v (.fld 2 (.t 68)))⟩, ⟨(some 70), none, (.v (.load 1 false (.t 69)))⟩, ⟨(some 71), none, (.call (.c (.fn 82 [])) [(.t 70)])⟩, ⟨(some 72), none, (.v (.mv (.t 7)))⟩, ⟨(some 73), none, (.call (.c (.fn 84 [])) [(.t 66), (.t 71), (.t 72)])⟩, ⟨(some 74), none, (.v (.mv (.t 7)))⟩, ⟨none, none, (.e (.store 5 (.t 2) (.t 73)))⟩, ⟨(some 3), none, (.v (.mv (.t 74)))⟩, ⟨(some 4), none, (.v (.mv (.c (.int .i64 0))))⟩] [[], [], [1], [2], [3], [4], [], [0, 5, 6, 5], [], [7, 7, 0, 1, 2, 3, 4, 5, 6, 7], [8, 9, 0, 1, 2, 3, 4, 5, 6, 7, 8, 9], [10, 0, 1, 2, 3, 4, 5, 6, 7, 8, 9, 10]]) .ret)))))))
def r40 : List AI := [(.load 5 true (.t 2)), (.mv (.t 3)), (.mv (.t 4))]
theorem f40 : Fn PP 40 1 a40 r40 := Fn.of (fn := Go.Proofs.Try.f40) (by kernel_rfl) (by kernel_rfl) (by kernel_rfl)
/-- The maker and the literals of the nodes behind the first i ands. -/
def hs (G : Gra) : Nat → Mak × (Nat → Int)
  | 0 => (newM G.ni G.nr, fun k => 2 * (k : Int))
  | i + 1 => (((hs G i).1.andF (mvL (hs G i).2 (G.A i)) (mvL (hs G i).2 (G.B i))).2, fun k => if k = G.base + i then ((hs G i).1.andF (mvL (hs G i).2 (G.A i)) (mvL (hs G i).2 (G.B i))).1 else (hs G i).2 k)
/-- What is known behind the first i ands. -/
structure HsI (G : Gra) (i : Nat) : Prop where
  ni : (hs G i).1.ni = G.ni
  nr : (hs G i).1.nr = G.nr
  n : (hs G i).1.n ≤ i
  bad : (hs G i).1.bad = 0
  to : ∀ k, k < G.base + i → (hs G i).1.bef ((hs G i).2 k)
  ops : ∀ k, k < (hs G i).1.n → (hs G i).1.bef ((hs G i).1.A k) ∧ (hs G i).1.bef ((hs G i).1.B k)
theorem bef_bit {M : Mak} (hn : M.nodes ≤ 1048576) {a : Int} (h : M.bef a) {c : Int} (hc : c = 0 ∨ c = 1) : M.bef (bitop .xor .i64 a c) := by
  obtain ⟨h0, h1⟩ := h
  rcases hc with rfl | rfl
  · rw [xor_zero h0 (by omega)]; exact ⟨h0, h1⟩
  · have := x1_val h0 (by omega)
    unfold x1 at this
    rw [this]
    split
    · exact ⟨by omega, by omega⟩
    · exact ⟨by omega, by omega⟩
theorem bef_mono {M M' : Mak} (h : M.nodes ≤ M'.nodes) {a : Int} (ha : M.bef a) : M'.bef a := ⟨ha.1, by have := ha.2; omega⟩
theorem nodes_eq {M : Mak} {G : Gra} (h1 : M.ni = G.ni) (h2 : M.nr = G.nr) : M.base = G.base := by unfold Mak.base Gra.base; rw [h1, h2]
theorem andS_ni (M : Mak) (a b : Int) : (M.andS a b).2.2.ni = M.ni ∧ (M.andS a b).2.2.nr = M.nr := by
  unfold Mak.andS
  split
  · exact ⟨rfl, rfl⟩
  · split
    · exact ⟨rfl, rfl⟩
    · split
      · exact ⟨rfl, rfl⟩
      · split <;> exact ⟨rfl, rfl⟩
/-- An 'and' that there is room for. -/
theorem andS_room {M : Mak} (hn : M.n < 4000) {a b : Int} (ha : M.bef a) (hb : M.bef b) (ho : ∀ k, k < M.n → M.bef (M.A k) ∧ M.bef (M.B k)) :
    (M.andS a b).2.2.n ≤ M.n + 1 ∧ M.n ≤ (M.andS a b).2.2.n ∧ (M.andS a b).2.2.bad = M.bad ∧ (M.andS a b).2.2.bef (M.andS a b).1 ∧ ∀ k, k < (M.andS a b).2.2.n → (M.andS a b).2.2.bef ((M.andS a b).2.2.A k) ∧ (M.andS a b).2.2.bef ((M.andS a b).2.2.B k) := by
  unfold Mak.andS
  have hbase : 0 < M.base := by unfold Mak.base; omega
  split
  · exact ⟨Nat.le_succ _, Nat.le_refl _, rfl, ⟨Int.le_refl 0, by show (0 : Int) < 2 * ((M.base + M.n : Nat) : Int); omega⟩, ho⟩
  · split
    · exact ⟨Nat.le_succ _, Nat.le_refl _, rfl, hb, ho⟩
    · split
      · rename_i h3
        exact ⟨Nat.le_succ _, Nat.le_refl _, rfl, ⟨by show (0 : Int) ≤ 2 * ((M.base + M.idx a b : Nat) : Int); omega, by show (2 : Int) * ((M.base + M.idx a b : Nat) : Int) < 2 * ((M.base + M.n : Nat) : Int); omega⟩, ho⟩
      · rw [if_neg (by omega)]
        have hp : (M.push a b).nodes = M.nodes + 1 := by show M.base + (M.n + 1) = M.base + M.n + 1; omega
        refine ⟨by show M.n + 1 ≤ M.n + 1; omega, by show M.n ≤ M.n + 1; omega, rfl, ⟨by show (0 : Int) ≤ 2 * ((M.nodes : Nat) : Int); omega, by rw [hp]; show (2 : Int) * ((M.nodes : Nat) : Int) < _; omega⟩, fun k hk => ?_⟩
        have hk : k < M.n + 1 := hk
        show (M.push a b).bef (if k = M.n then a else M.A k) ∧ (M.push a b).bef (if k = M.n then b else M.B k)
        by_cases e : k = M.n
        · rw [if_pos e, if_pos e]; exact ⟨bef_mono (by omega) ha, bef_mono (by omega) hb⟩
        · rw [if_neg e, if_neg e]; exact ⟨bef_mono (by omega) (ho k (by omega)).1, bef_mono (by omega) (ho k (by omega)).2⟩
theorem hs_inv {G : Gra} (gd : G.Good) : ∀ i, i ≤ G.na → HsI G i
  | 0, _ => ⟨rfl, rfl, Nat.le_refl _, rfl, fun k hk => ⟨by show (0 : Int) ≤ 2 * (k : Int); omega, by
      have e : (newM G.ni G.nr).nodes = G.base := rfl
      show (2 : Int) * (k : Int) < 2 * ((newM G.ni G.nr).nodes : Nat)
      rw [e]; omega⟩, fun k hk => absurd hk (Nat.not_lt_zero _)⟩
  | i + 1, hi => by
    have h := hs_inv gd i (by omega)
    have b1 := gd.ni; have b2 := gd.nr; have b3 := gd.na
    have hB := nodes_eq h.ni h.nr
    have hN : (hs G i).1.nodes ≤ 1048576 := by
      have := h.n
      show (hs G i).1.base + (hs G i).1.n ≤ _
      rw [hB]
      have hb : G.base = 1 + G.ni + G.nr := rfl
      omega
    have ha : (hs G i).1.bef (mvL (hs G i).2 (G.A i)) := bef_bit hN (h.to _ (ndx_lt (gd.A i (by omega)))) (by omega)
    have hb : (hs G i).1.bef (mvL (hs G i).2 (G.B i)) := bef_bit hN (h.to _ (ndx_lt (gd.B i (by omega)))) (by omega)
    have hn := h.n
    have ha' : (hs G i).1.bef (if mvL (hs G i).2 (G.B i) < mvL (hs G i).2 (G.A i) then mvL (hs G i).2 (G.B i) else mvL (hs G i).2 (G.A i)) := by split <;> assumption
    have hb' : (hs G i).1.bef (if mvL (hs G i).2 (G.B i) > mvL (hs G i).2 (G.A i) then mvL (hs G i).2 (G.B i) else mvL (hs G i).2 (G.A i)) := by split <;> assumption
    have key : (hs G i).1.andF (mvL (hs G i).2 (G.A i)) (mvL (hs G i).2 (G.B i)) = (((hs G i).1.andS (if mvL (hs G i).2 (G.B i) < mvL (hs G i).2 (G.A i) then mvL (hs G i).2 (G.B i) else mvL (hs G i).2 (G.A i)) (if mvL (hs G i).2 (G.B i) > mvL (hs G i).2 (G.A i) then mvL (hs G i).2 (G.B i) else mvL (hs G i).2 (G.A i))).1, ((hs G i).1.andS (if mvL (hs G i).2 (G.B i) < mvL (hs G i).2 (G.A i) then mvL (hs G i).2 (G.B i) else mvL (hs G i).2 (G.A i)) (if mvL (hs G i).2 (G.B i) > mvL (hs G i).2 (G.A i) then mvL (hs G i).2 (G.B i) else mvL (hs G i).2 (G.A i))).2.2) := by
      unfold Mak.andF
      rw [if_pos ⟨ha, hb⟩]
      rfl
    obtain ⟨r1, r2, r3, r4, r5⟩ := andS_room (M := (hs G i).1) (by omega) ha' hb' h.ops
    obtain ⟨s1, s2⟩ := andS_ni (hs G i).1 (if mvL (hs G i).2 (G.B i) < mvL (hs G i).2 (G.A i) then mvL (hs G i).2 (G.B i) else mvL (hs G i).2 (G.A i)) (if mvL (hs G i).2 (G.B i) > mvL (hs G i).2 (G.A i) then mvL (hs G i).2 (G.B i) else mvL (hs G i).2 (G.A i))
    have e1 : (hs G (i + 1)).1 = ((hs G i).1.andF (mvL (hs G i).2 (G.A i)) (mvL (hs G i).2 (G.B i))).2 := rfl
    have e2 : (hs G (i + 1)).2 = fun k => if k = G.base + i then ((hs G i).1.andF (mvL (hs G i).2 (G.A i)) (mvL (hs G i).2 (G.B i))).1 else (hs G i).2 k := rfl
    generalize ((hs G i).1.andS (if mvL (hs G i).2 (G.B i) < mvL (hs G i).2 (G.A i) then mvL (hs G i).2 (G.B i) else mvL (hs G i).2 (G.A i)) (if mvL (hs G i).2 (G.B i) > mvL (hs G i).2 (G.A i) then mvL (hs G i).2 (G.B i) else mvL (hs G i).2 (G.A i))) = R at *
    rw [key] at e1 e2
    simp only at e1 e2
    have hle : (hs G i).1.nodes ≤ R.2.2.nodes := by
      show (hs G i).1.base + (hs G i).1.n ≤ R.2.2.base + R.2.2.n
      have : R.2.2.base = (hs G i).1.base := by unfold Mak.base; rw [s1, s2]
      omega
    refine ⟨by rw [e1, s1, h.ni], by rw [e1, s2, h.nr], by rw [e1]; omega, by rw [e1, r3, h.bad], fun k hk => ?_, by rw [e1]; exact r5⟩
    rw [e1, e2]
    simp only
    by_cases e : k = G.base + i
    · rw [if_pos e]; exact r4
    · rw [if_neg e]; exact bef_mono hle (h.to k (by omega))
/-- The graph that is left. -/
def strG (G : Gra) : Gra where
  ni := G.ni
  inn := G.inn
  no := G.no
  out := G.out
  nr := G.nr
  reg := fun i => ⟨(G.reg i).name, mvL (hs G G.na).2 (G.reg i).next, (G.reg i).init⟩
  na := (hs G G.na).1.n
  A := (hs G G.na).1.A
  B := (hs G G.na).1.B
  nk := G.nk
  outs := fun i => mvL (hs G G.na).2 (G.outs i)

def sSet (i : Nat) : Nat → Prop := Ext (fun _ => False) 1000 (1100 + 200 * i)
theorem sSet_lo {i k : Nat} (h : sSet i k) : 1000 ≤ k := h.elim (fun h => h.elim) (fun h => h.1)
theorem sSet_hi {i k : Nat} (h : sSet i k) : k < 1100 + 200 * i := h.elim (fun h => h.elim) (fun h => h.2)
theorem sSet_succ (i : Nat) : Ext (sSet i) (1100 + 200 * i) (1100 + 200 * i + 200) = sSet (i + 1) := by
  funext k; apply propext; unfold sSet Ext
  constructor
  · rintro ((h | h) | h)
    · exact .inl h
    · exact .inr ⟨h.1, by omega⟩
    · exact .inr ⟨by omega, by omega⟩
  · rintro (h | h)
    · exact .inl (.inl h)
    · by_cases q : k < 1100 + 200 * i
      · exact .inl (.inr ⟨h.1, q⟩)
      · exact .inr ⟨by omega, by omega⟩
theorem MkA.lo {mem : Mem} {o v : Nat} {fi fr : Nat → AV} {M : Mak} {i k : Nat} {q : AO} (h : MkA mem o v fi fr M (sSet i)) (hk : k < 1000) : MkA (Mem.set k q mem) o v fi fr M (sSet i) :=
  h.setOut fun h => by have := sSet_lo h; omega
theorem hs_ok {G : Gra} (gd : G.Good) {i : Nat} (hi : i ≤ G.na) : (hs G i).1.Ok := by
  have h := hs_inv gd i hi
  have b1 := gd.ni; have b2 := gd.nr; have b3 := gd.na
  exact ⟨by rw [h.ni]; omega, by rw [h.nr]; omega, by have := h.n; omega⟩

theorem p40 {G : Gra} {cs : List AV} (hG : GraC cs G) (ok : G.Ok) : Pure PP 40 [.agg cs] fun r => ∃ ds n f, r = .tup [.agg ds, .fs n f, .int .i64 (graphF G)] ∧ (graphF G ≠ 0 → n = 0 ∧ ∃ h0 h1 h2 h3 h4, ds = [.fs 0 h0, .fs 0 h1, .fs 0 h2, .fs 0 h3, .fs 0 h4]) ∧
    (graphF G = 0 → GraC ds (strG G) ∧ n = G.nodes ∧ ∀ k, k < n → f k = .int .i64 ((hs G G.na).2 k)) := by
  have hG0 := hG
  obtain ⟨f0, f1, f2, f3, f4, rfl, g0, g1, g2, g3, g4⟩ := hG
  refine Fn.pure fmix f40 ?_
  unfold a40 r40
  simp -implicitDefEqProofs only [vq0, vq1, vq2, vq3, vq4, vq5, vq6, vq7, vq8, vq9, vqc, vqj, vqf, AI.val, EI.run, binI, kEq, env0, RetF, retL, retV, frzAL, part?, List.drop, List.take, List.all, List.length, List.map, List.append, List.nil_append, List.cons_append, List.append_nil, List.getD_cons_zero, List.getD_cons_succ, List.getD_nil, Option.map_some, Option.map_none, cond_true, cond_false, Nat.reduceEqDiff, Nat.reduceAdd, reduceIte, eq_self, IntKind.bits, litA, appSrc, frzV, frzL, mkElt, List.replicate, List.set, Nat.reduceLeDiff, Nat.reduceBEq, Nat.reduceLT, decide_true, decide_false, List.getElem?_cons_zero, List.getElem?_cons_succ, List.getElem?_nil, Nat.reduceSub, gt_iff_lt, ge_iff_le, Int.reduceLT, Int.reduceLE, Int.reduceEq, Int.cast_ofNat_Int, Int.reduceToNat, implies_true, forall_const, Nat.reduceMul, keyV, elN, eqCells, binS, Ret, newElt, fillA, bound]
  refine CallW.sc (p29 hG0 ok) rfl ⟨⟨trivial, trivial, trivial, trivial, trivial, trivial⟩, trivial⟩ fun r hr => ⟨by subst hr; rfl, ?_⟩
  subst hr
  simp -implicitDefEqProofs only [vq0, vq1, vq2, vq3, vq4, vq5, vq6, vq7, vq8, vq9, vqc, vqj, vqf, AI.val, EI.run, binI, kEq, env0, RetF, retL, retV, frzAL, part?, List.drop, List.take, List.all, List.length, List.map, List.append, List.nil_append, List.cons_append, List.append_nil, List.getD_cons_zero, List.getD_cons_succ, List.getD_nil, Option.map_some, Option.map_none, cond_true, cond_false, Nat.reduceEqDiff, Nat.reduceAdd, reduceIte, eq_self, IntKind.bits, litA, appSrc, frzV, frzL, mkElt, List.replicate, List.set, Nat.reduceLeDiff, Nat.reduceBEq, Nat.reduceLT, decide_true, decide_false, List.getElem?_cons_zero, List.getElem?_cons_succ, List.getElem?_nil, Nat.reduceSub, gt_iff_lt, ge_iff_le, Int.reduceLT, Int.reduceLE, Int.reduceEq, Int.cast_ofNat_Int, Int.reduceToNat, implies_true, forall_const, Nat.reduceMul, keyV, elN, eqCells, binS, Ret, newElt, fillA, bound]
  refine ⟨fun k1 => ⟨_, _, _, rfl, fun _ => ⟨rfl, _, _, _, _, _, rfl⟩, fun h => absurd h k1⟩, fun k1 => ?_⟩
  have hz : graphF G = 0 := Classical.not_not.1 k1
  have gd := good_of hz
  have b1 := gd.ni; have b2 := gd.nr; have b3 := gd.na; have b4 := gd.no; have b5 := gd.nk
  have hbE : G.base = 1 + G.ni + G.nr := rfl
  have hnE : G.nodes = G.base + G.na := rfl
  rw [hz]
  generalize (mem0 1).ver + 1 = V1
  generalize (mem0 2).ver + 1 = V2
  refine (p68 1000 (ni := G.ni) (nr := G.nr) (fun i hi => by rw [g0 i hi]; exact ⟨rfl, rfl⟩) (fun i hi => by rw [g2 i hi]; exact ⟨rfl, rfl⟩) ok.ni ok.nr).mono fun r m ⟨v, gi, gr, hr, hM, hK, _, _⟩ => ?_
  subst hr
  have m1 := hK 1 (by omega)
  have m2 := hK 2 (by omega)
  simp only [set_at, if_true, if_false, Nat.reduceEqDiff] at m1 m2
  have hM0 : MkA m 1011 v gi gr (hs G 0).1 (sSet 0) := hM
  simp -implicitDefEqProofs only [vq0, vq1, vq2, vq3, vq4, vq5, vq6, vq7, vq8, vq9, vqc, vqj, vqf, AI.val, EI.run, binI, kEq, env0, RetF, retL, retV, frzAL, part?, List.drop, List.take, List.all, List.length, List.map, List.append, List.nil_append, List.cons_append, List.append_nil, List.getD_cons_zero, List.getD_cons_succ, List.getD_nil, Option.map_some, Option.map_none, cond_true, cond_false, Nat.reduceEqDiff, Nat.reduceAdd, reduceIte, eq_self, IntKind.bits, litA, appSrc, frzV, frzL, mkElt, List.replicate, List.set, Nat.reduceLeDiff, Nat.reduceBEq, Nat.reduceLT, decide_true, decide_false, List.getElem?_cons_zero, List.getElem?_cons_succ, List.getElem?_nil, Nat.reduceSub, gt_iff_lt, ge_iff_le, Int.reduceLT, Int.reduceLE, Int.reduceEq, Int.cast_ofNat_Int, Int.reduceToNat, implies_true, forall_const, Nat.reduceMul, keyV, elN, eqCells, binS, Ret, newElt, fillA, bound, m1, m2]
  refine CallW.sc (p24 hG0 ok) rfl ⟨⟨trivial, trivial, trivial, trivial, trivial, trivial⟩, trivial⟩ fun r hr => ⟨by subst hr; rfl, ?_⟩
  subst hr
  simp -implicitDefEqProofs only [vq0, vq1, vq2, vq3, vq4, vq5, vq6, vq7, vq8, vq9, vqc, vqj, vqf, AI.val, EI.run, binI, kEq, env0, RetF, retL, retV, frzAL, part?, List.drop, List.take, List.all, List.length, List.map, List.append, List.nil_append, List.cons_append, List.append_nil, List.getD_cons_zero, List.getD_cons_succ, List.getD_nil, Option.map_some, Option.map_none, cond_true, cond_false, Nat.reduceEqDiff, Nat.reduceAdd, reduceIte, eq_self, IntKind.bits, litA, appSrc, frzV, frzL, mkElt, List.replicate, List.set, Nat.reduceLeDiff, Nat.reduceBEq, Nat.reduceLT, decide_true, decide_false, List.getElem?_cons_zero, List.getElem?_cons_succ, List.getElem?_nil, Nat.reduceSub, gt_iff_lt, ge_iff_le, Int.reduceLT, Int.reduceLE, Int.reduceEq, Int.cast_ofNat_Int, Int.reduceToNat, implies_true, forall_const, Nat.reduceMul, keyV, elN, eqCells, binS, Ret, newElt, fillA, bound, m1, m2]
  refine vFor G.base (fun i e m => e 1 = .ptr 1 V1 0 ∧ m 1 = .var V1 [.fs G.ni f0, .fs G.no f1, .fs G.nr f2, .fs G.na f3, .fs G.nk f4] ∧ e 2 = .ptr 2 V2 0 ∧ m 2 = .var V2 [.cap0, .cap0, .cap0, .cap0, .cap0] ∧ e 6 = .ptr 1011 v 0 ∧ e 23 = .int .i64 (G.base : Nat) ∧ e 24 = .int .i64 i ∧ Acc 31 28 1 i (fun k a => a = .int .i64 (2 * (k : Int))) (e 7) m ∧ MkA m 1011 v gi gr (hs G 0).1 (sSet 0)) ?_ ?_ ?_
  · simp -implicitDefEqProofs only [vq0, vq1, vq2, vq3, vq4, vq5, vq6, vq7, vq8, vq9, vqc, vqj, vqf, AI.val, EI.run, binI, kEq, env0, RetF, retL, retV, frzAL, part?, List.drop, List.take, List.all, List.length, List.map, List.append, List.nil_append, List.cons_append, List.append_nil, List.getD_cons_zero, List.getD_cons_succ, List.getD_nil, Option.map_some, Option.map_none, cond_true, cond_false, Nat.reduceEqDiff, Nat.reduceAdd, reduceIte, eq_self, IntKind.bits, litA, appSrc, frzV, frzL, mkElt, List.replicate, List.set, Nat.reduceLeDiff, Nat.reduceBEq, Nat.reduceLT, decide_true, decide_false, List.getElem?_cons_zero, List.getElem?_cons_succ, List.getElem?_nil, Nat.reduceSub, gt_iff_lt, ge_iff_le, Int.reduceLT, Int.reduceLE, Int.reduceEq, Int.cast_ofNat_Int, Int.reduceToNat, implies_true, forall_const, Nat.reduceMul, keyV, elN, eqCells, binS, Ret, newElt, fillA, bound, m1, m2]
    exact ⟨.none, hM0⟩
  · rintro i e m hi hi' ⟨h1, m1, h2, m2, h6, h23, h24, hA, hM⟩
    have w2 : IntKind.i64.wrap (2 * (i : Int)) = 2 * (i : Int) := wI (by omega) (by omega)
    unfold a40_0
    rcases hA with ⟨hzz, h7⟩ | ⟨V, g, h7, m31, hg⟩
    · simp -implicitDefEqProofs only [vq0, vq1, vq2, vq3, vq4, vq5, vq6, vq7, vq8, vq9, vqc, vqj, vqf, AI.val, EI.run, binI, kEq, env0, RetF, retL, retV, frzAL, part?, List.drop, List.take, List.all, List.length, List.map, List.append, List.nil_append, List.cons_append, List.append_nil, List.getD_cons_zero, List.getD_cons_succ, List.getD_nil, Option.map_some, Option.map_none, cond_true, cond_false, Nat.reduceEqDiff, Nat.reduceAdd, reduceIte, eq_self, IntKind.bits, litA, appSrc, frzV, frzL, mkElt, List.replicate, List.set, Nat.reduceLeDiff, Nat.reduceBEq, Nat.reduceLT, decide_true, decide_false, List.getElem?_cons_zero, List.getElem?_cons_succ, List.getElem?_nil, Nat.reduceSub, gt_iff_lt, ge_iff_le, Int.reduceLT, Int.reduceLE, Int.reduceEq, Int.cast_ofNat_Int, Int.reduceToNat, implies_true, forall_const, Nat.reduceMul, keyV, elN, eqCells, binS, Ret, newElt, fillA, bound, h1, m1, h2, m2, h6, h7, h23, h24, hi', w2]
      subst hzz
      exact ⟨hi, wI (by omega) (by omega), .first (p := fun k a => a = .int .i64 (2 * (k : Int))) rfl, (hM.lo (by decide)).lo (by decide)⟩
    · simp -implicitDefEqProofs only [vq0, vq1, vq2, vq3, vq4, vq5, vq6, vq7, vq8, vq9, vqc, vqj, vqf, AI.val, EI.run, binI, kEq, env0, RetF, retL, retV, frzAL, part?, List.drop, List.take, List.all, List.length, List.map, List.append, List.nil_append, List.cons_append, List.append_nil, List.getD_cons_zero, List.getD_cons_succ, List.getD_nil, Option.map_some, Option.map_none, cond_true, cond_false, Nat.reduceEqDiff, Nat.reduceAdd, reduceIte, eq_self, IntKind.bits, litA, appSrc, frzV, frzL, mkElt, List.replicate, List.set, Nat.reduceLeDiff, Nat.reduceBEq, Nat.reduceLT, decide_true, decide_false, List.getElem?_cons_zero, List.getElem?_cons_succ, List.getElem?_nil, Nat.reduceSub, gt_iff_lt, ge_iff_le, Int.reduceLT, Int.reduceLE, Int.reduceEq, Int.cast_ofNat_Int, Int.reduceToNat, implies_true, forall_const, Nat.reduceMul, keyV, elN, eqCells, binS, Ret, newElt, fillA, bound, h1, m1, h2, m2, h6, h7, h23, h24, hi', w2, m31]
      exact ⟨⟨by omega, by omega⟩, hi, wI (by omega) (by omega), .push (p := fun k a => a = .int .i64 (2 * (k : Int))) hg rfl, (hM.lo (by decide)).lo (by decide)⟩
  · rintro e m ⟨h1, m1, h2, m2, h6, h23, h24, hA, hM⟩
    unfold a40_0
    rcases hA with ⟨hzz, h7⟩ | ⟨V, g, h7, m31, hg⟩
    · omega
    simp -implicitDefEqProofs only [vq0, vq1, vq2, vq3, vq4, vq5, vq6, vq7, vq8, vq9, vqc, vqj, vqf, AI.val, EI.run, binI, kEq, env0, RetF, retL, retV, frzAL, part?, List.drop, List.take, List.all, List.length, List.map, List.append, List.nil_append, List.cons_append, List.append_nil, List.getD_cons_zero, List.getD_cons_succ, List.getD_nil, Option.map_some, Option.map_none, cond_true, cond_false, Nat.reduceEqDiff, Nat.reduceAdd, reduceIte, eq_self, IntKind.bits, litA, appSrc, frzV, frzL, mkElt, List.replicate, List.set, Nat.reduceLeDiff, Nat.reduceBEq, Nat.reduceLT, decide_true, decide_false, List.getElem?_cons_zero, List.getElem?_cons_succ, List.getElem?_nil, Nat.reduceSub, gt_iff_lt, ge_iff_le, Int.reduceLT, Int.reduceLE, Int.reduceEq, Int.cast_ofNat_Int, Int.reduceToNat, implies_true, forall_const, Nat.reduceMul, keyV, elN, eqCells, binS, Ret, newElt, fillA, bound, h1, m1, h2, m2, h6, h7, h23, h24]
    refine vFor G.na (fun i e m => e 1 = .ptr 1 V1 0 ∧ m 1 = .var V1 [.fs G.ni f0, .fs G.no f1, .fs G.nr f2, .fs G.na f3, .fs G.nk f4] ∧ e 2 = .ptr 2 V2 0 ∧ m 2 = .var V2 [.cap0, .cap0, .cap0, .cap0, .cap0] ∧ e 6 = .ptr 1011 v 0 ∧ e 34 = .fs G.na f3 ∧ e 35 = .int .i64 G.na ∧ e 36 = .int .i64 i ∧ (∃ V g, e 7 = .sl 31 V (G.base + i) ∧ m 31 = .row V 28 1 (G.base + i) g ∧ ∀ k, k < G.base + i → g k = .int .i64 ((hs G i).2 k)) ∧ MkA m 1011 v gi gr (hs G i).1 (sSet i)) ?_ ?_ ?_
    · simp -implicitDefEqProofs only [vq0, vq1, vq2, vq3, vq4, vq5, vq6, vq7, vq8, vq9, vqc, vqj, vqf, AI.val, EI.run, binI, kEq, env0, RetF, retL, retV, frzAL, part?, List.drop, List.take, List.all, List.length, List.map, List.append, List.nil_append, List.cons_append, List.append_nil, List.getD_cons_zero, List.getD_cons_succ, List.getD_nil, Option.map_some, Option.map_none, cond_true, cond_false, Nat.reduceEqDiff, Nat.reduceAdd, reduceIte, eq_self, IntKind.bits, litA, appSrc, frzV, frzL, mkElt, List.replicate, List.set, Nat.reduceLeDiff, Nat.reduceBEq, Nat.reduceLT, decide_true, decide_false, List.getElem?_cons_zero, List.getElem?_cons_succ, List.getElem?_nil, Nat.reduceSub, gt_iff_lt, ge_iff_le, Int.reduceLT, Int.reduceLE, Int.reduceEq, Int.cast_ofNat_Int, Int.reduceToNat, implies_true, forall_const, Nat.reduceMul, keyV, elN, eqCells, binS, Ret, newElt, fillA, bound, h1, m1, h2, m2, h6, h7]
      exact ⟨⟨_, _, rfl, m31, hg⟩, hM⟩
    · rintro i e m hi hi' ⟨h1, m1, h2, m2, h6, h34, h35, h36, ⟨V, g, h7, m31, hg⟩, hM⟩
      have okA := gd.A i hi
      have okB := gd.B i hi
      have lA := ndx_lt okA
      have lB := ndx_lt okB
      have wA := ndx_quo okA (by omega)
      have wB := ndx_quo okB (by omega)
      have xA := tmod_two okA.1
      have xB := tmod_two okB.1
      have q1 : ∀ (m : Mem), restr (twoL 10 31) m 10 = m 10 := fun _ => restr_two1
      have q2 : ∀ (m : Mem), restr (twoL 10 31) m 31 = m 31 := fun _ => restr_two2
      unfold a40_1
      simp -implicitDefEqProofs only [vq0, vq1, vq2, vq3, vq4, vq5, vq6, vq7, vq8, vq9, vqc, vqj, vqf, AI.val, EI.run, binI, kEq, env0, RetF, retL, retV, frzAL, part?, List.drop, List.take, List.all, List.length, List.map, List.append, List.nil_append, List.cons_append, List.append_nil, List.getD_cons_zero, List.getD_cons_succ, List.getD_nil, Option.map_some, Option.map_none, cond_true, cond_false, Nat.reduceEqDiff, Nat.reduceAdd, reduceIte, eq_self, IntKind.bits, litA, appSrc, frzV, frzL, mkElt, List.replicate, List.set, Nat.reduceLeDiff, Nat.reduceBEq, Nat.reduceLT, decide_true, decide_false, List.getElem?_cons_zero, List.getElem?_cons_succ, List.getElem?_nil, Nat.reduceSub, gt_iff_lt, ge_iff_le, Int.reduceLT, Int.reduceLE, Int.reduceEq, Int.cast_ofNat_Int, Int.reduceToNat, implies_true, forall_const, Nat.reduceMul, keyV, elN, eqCells, binS, Ret, newElt, fillA, bound, h1, m1, h2, m2, h6, h7, m31, h34, h35, h36, hi', g3 i hi]
      refine ⟨by omega, ?_⟩
      refine vAny [0, 1, 2, 3, 4, 5, 6, 7, 8, 9, 10, 11, 12, 13, 14, 15, 16, 17, 18, 19, 20, 21, 22, 23, 24, 25] 24 (twoL 10 31) (by kernel_rfl) (by kernel_rfl) ?_
      simp -implicitDefEqProofs only [vq0, vq1, vq2, vq3, vq4, vq5, vq6, vq7, vq8, vq9, vqc, vqj, vqf, AI.val, EI.run, binI, kEq, env0, RetF, retL, retV, frzAL, part?, List.drop, List.take, List.all, List.length, List.map, List.append, List.nil_append, List.cons_append, List.append_nil, List.getD_cons_zero, List.getD_cons_succ, List.getD_nil, Option.map_some, Option.map_none, cond_true, cond_false, Nat.reduceEqDiff, Nat.reduceAdd, reduceIte, eq_self, IntKind.bits, litA, appSrc, frzV, frzL, mkElt, List.replicate, List.set, Nat.reduceLeDiff, Nat.reduceBEq, Nat.reduceLT, decide_true, decide_false, List.getElem?_cons_zero, List.getElem?_cons_succ, List.getElem?_nil, Nat.reduceSub, gt_iff_lt, ge_iff_le, Int.reduceLT, Int.reduceLE, Int.reduceEq, Int.cast_ofNat_Int, Int.reduceToNat, implies_true, forall_const, Nat.reduceMul, keyV, elN, eqCells, binS, Ret, newElt, fillA, bound, h1, m1, h2, m2, h6, h7, m31, h34, h35, h36, hi', q1, q2, agree_two, wA, wB, xA, xB, hg _ lA, hg _ lB]
      refine ⟨by decide, by omega, by omega, by decide, by decide, by omega, by omega, by decide, ?_⟩
      refine (p83 (1100 + 200 * i) ((hM.lo (k := 10) (by decide)).lo (k := 10) (by decide)) (hs_ok gd (by omega)) (fun k h => sSet_hi h) (mvL (hs G i).2 (G.A i)) (mvL (hs G i).2 (G.B i))).mono fun r m' ⟨hr, hM', hF⟩ => ?_
      rw [sSet_succ] at hM'
      have k1 := hF 1 (by omega) (fun h => by have := sSet_lo h; omega)
      have k2 := hF 2 (by omega) (fun h => by have := sSet_lo h; omega)
      have k10 := hF 10 (by omega) (fun h => by have := sSet_lo h; omega)
      have k31 := hF 31 (by omega) (fun h => by have := sSet_lo h; omega)
      simp only [set_at, if_true, if_false, Nat.reduceEqDiff] at k1 k2 k10 k31
      rw [m1] at k1
      rw [m2] at k2
      rw [m31] at k31
      subst hr
      simp -implicitDefEqProofs only [vq0, vq1, vq2, vq3, vq4, vq5, vq6, vq7, vq8, vq9, vqc, vqj, vqf, AI.val, EI.run, binI, kEq, env0, RetF, retL, retV, frzAL, part?, List.drop, List.take, List.all, List.length, List.map, List.append, List.nil_append, List.cons_append, List.append_nil, List.getD_cons_zero, List.getD_cons_succ, List.getD_nil, Option.map_some, Option.map_none, cond_true, cond_false, Nat.reduceEqDiff, Nat.reduceAdd, reduceIte, eq_self, IntKind.bits, litA, appSrc, frzV, frzL, mkElt, List.replicate, List.set, Nat.reduceLeDiff, Nat.reduceBEq, Nat.reduceLT, decide_true, decide_false, List.getElem?_cons_zero, List.getElem?_cons_succ, List.getElem?_nil, Nat.reduceSub, gt_iff_lt, ge_iff_le, Int.reduceLT, Int.reduceLE, Int.reduceEq, Int.cast_ofNat_Int, Int.reduceToNat, implies_true, forall_const, Nat.reduceMul, keyV, elN, eqCells, binS, Ret, newElt, fillA, bound, h1, k1, h2, k2, h6, h7, k10, k31, m31, h34, h35, h36, q1, q2, agree_two]
      refine ⟨⟨by omega, by omega⟩, hi, wI (by omega) (by omega), ⟨_, _, rfl, rfl, fun k hk => ?_⟩, (hM'.lo (by decide)).lo (by decide)⟩
      refine pushF (p := fun k => .int .i64 ((hs G (i + 1)).2 k)) (i := G.base + i) (fun k hk => ?_) ?_ k hk
      · rw [hg k hk]
        show _ = AV.int .i64 (if k = G.base + i then _ else _)
        rw [if_neg (by omega)]
      · show _ = AV.int .i64 (if G.base + i = G.base + i then _ else _)
        rw [if_pos rfl]
    · rintro e m ⟨h1, m1, h2, m2, h6, h34, h35, h36, ⟨V, g, h7, m31, hg⟩, hM⟩
      have hI := hs_inv gd G.na (Nat.le_refl _)
      have hMb := nodes_eq hI.ni hI.nr
      obtain ⟨av, sid, sv, p, gm, e1, e2, l1, l3, l5, hA, hp, hgm⟩ := hM
      have hroot : ∀ (a0 a1 ff rr ll : Nat → AV), (∀ k, k < (hs G G.na).1.n → ff k = .agg [.int .i64 ((hs G G.na).1.A k), .int .i64 ((hs G G.na).1.B k)]) → (∀ i, i < G.ni → a0 i = .str (G.inn i)) → (∀ i, i < G.no → a1 i = .str (G.out i)) →
        (∀ i, i < G.nr → rr i = .agg [.str (G.reg i).name, .int .i64 (mvL (hs G G.na).2 (G.reg i).next), .bool (G.reg i).init]) → (∀ i, i < G.nk → ll i = .int .i64 (mvL (hs G G.na).2 (G.outs i))) →
        GraC [.fs G.ni a0, .fs G.no a1, .fs G.nr rr, .fs (hs G G.na).1.n ff, .fs G.nk ll] (strG G) := fun a0 a1 ff rr ll kf k0 k1 kr kl => ⟨a0, a1, rr, ff, ll, rfl, k0, k1, kr, kf, kl⟩
      have q1 : ∀ (m : Mem), restr (twoL 1 1011) m 1 = m 1 := fun _ => restr_two1
      have q2 : ∀ (m : Mem), restr (twoL 1 1011) m 1011 = m 1011 := fun _ => restr_two2
      unfold a40_1
      simp -implicitDefEqProofs only [vq0, vq1, vq2, vq3, vq4, vq5, vq6, vq7, vq8, vq9, vqc, vqj, vqf, AI.val, EI.run, binI, kEq, env0, RetF, retL, retV, frzAL, part?, List.drop, List.take, List.all, List.length, List.map, List.append, List.nil_append, List.cons_append, List.append_nil, List.getD_cons_zero, List.getD_cons_succ, List.getD_nil, Option.map_some, Option.map_none, cond_true, cond_false, Nat.reduceEqDiff, Nat.reduceAdd, reduceIte, eq_self, IntKind.bits, litA, appSrc, frzV, frzL, mkElt, List.replicate, List.set, Nat.reduceLeDiff, Nat.reduceBEq, Nat.reduceLT, decide_true, decide_false, List.getElem?_cons_zero, List.getElem?_cons_succ, List.getElem?_nil, Nat.reduceSub, gt_iff_lt, ge_iff_le, Int.reduceLT, Int.reduceLE, Int.reduceEq, Int.cast_ofNat_Int, Int.reduceToNat, implies_true, forall_const, Nat.reduceMul, keyV, elN, eqCells, binS, Ret, newElt, fillA, bound, h1, m1, h2, m2, h6, h7, m31, h34, h35, h36]
      refine vAny [0, 1, 2, 3, 4, 6, 8, 5, 7, 9, 10, 11] 12 (twoL 1 1011) (by kernel_rfl) (by kernel_rfl) ?_
      simp -implicitDefEqProofs only [vq0, vq1, vq2, vq3, vq4, vq5, vq6, vq7, vq8, vq9, vqc, vqj, vqf, AI.val, EI.run, binI, kEq, env0, RetF, retL, retV, frzAL, part?, List.drop, List.take, List.all, List.length, List.map, List.append, List.nil_append, List.cons_append, List.append_nil, List.getD_cons_zero, List.getD_cons_succ, List.getD_nil, Option.map_some, Option.map_none, cond_true, cond_false, Nat.reduceEqDiff, Nat.reduceAdd, reduceIte, eq_self, IntKind.bits, litA, appSrc, frzV, frzL, mkElt, List.replicate, List.set, Nat.reduceLeDiff, Nat.reduceBEq, Nat.reduceLT, decide_true, decide_false, List.getElem?_cons_zero, List.getElem?_cons_succ, List.getElem?_nil, Nat.reduceSub, gt_iff_lt, ge_iff_le, Int.reduceLT, Int.reduceLE, Int.reduceEq, Int.cast_ofNat_Int, Int.reduceToNat, implies_true, forall_const, Nat.reduceMul, keyV, elN, eqCells, binS, Ret, newElt, fillA, bound, h1, m1, h2, m2, h6, h7, m31, q1, q2, agree_two, e1]
      rcases hA with ⟨hzn, rfl⟩ | ⟨aid, W, ff, rfl, e3, l6, l7, l8, hff⟩
      · refine CallW.fz (p82z 0 (fun _ => .undef) (fun i hi => absurd hi (Nat.not_lt_zero _)) (by omega)) rfl rfl fun r ⟨qq, hr, _⟩ => ⟨by subst hr; rfl, ?_⟩
        subst hr
        simp -implicitDefEqProofs only [vq0, vq1, vq2, vq3, vq4, vq5, vq6, vq7, vq8, vq9, vqc, vqj, vqf, AI.val, EI.run, binI, kEq, env0, RetF, retL, retV, frzAL, part?, List.drop, List.take, List.all, List.length, List.map, List.append, List.nil_append, List.cons_append, List.append_nil, List.getD_cons_zero, List.getD_cons_succ, List.getD_nil, Option.map_some, Option.map_none, cond_true, cond_false, Nat.reduceEqDiff, Nat.reduceAdd, reduceIte, eq_self, IntKind.bits, litA, appSrc, frzV, frzL, mkElt, List.replicate, List.set, Nat.reduceLeDiff, Nat.reduceBEq, Nat.reduceLT, decide_true, decide_false, List.getElem?_cons_zero, List.getElem?_cons_succ, List.getElem?_nil, Nat.reduceSub, gt_iff_lt, ge_iff_le, Int.reduceLT, Int.reduceLE, Int.reduceEq, Int.cast_ofNat_Int, Int.reduceToNat, implies_true, forall_const, Nat.reduceMul, keyV, elN, eqCells, binS, Ret, newElt, fillA, bound, h1, m1, h2, m2, h6, h7, m31, q1, q2, agree_two, e1]
        refine (p84s 2000000 (id := 31) (iv := V) (by omega) hG0 ok gd 0 qq (hs G G.na).2 g hg m31).mono fun r m' ⟨a0, a1, rv, lv, hr, hK, k0, k1, hR, hL⟩ => ?_
        subst hr
        have t1 := (hK 1 (by omega)).trans m1
        have t2 := (hK 2 (by omega)).trans m2
        have t31 := (hK 31 (by omega)).trans m31
        have t11 := (hK 1011 (by omega)).trans e1
        rcases hR with ⟨hz1, rfl⟩ | ⟨v1, r1, rfl, mr, hr1⟩ <;> rcases hL with ⟨hz2, rfl⟩ | ⟨v2, r2, rfl, ml, hr2⟩
        · simp -implicitDefEqProofs only [vq0, vq1, vq2, vq3, vq4, vq5, vq6, vq7, vq8, vq9, vqc, vqj, vqf, AI.val, EI.run, binI, kEq, env0, RetF, retL, retV, frzAL, part?, List.drop, List.take, List.all, List.length, List.map, List.append, List.nil_append, List.cons_append, List.append_nil, List.getD_cons_zero, List.getD_cons_succ, List.getD_nil, Option.map_some, Option.map_none, cond_true, cond_false, Nat.reduceEqDiff, Nat.reduceAdd, reduceIte, eq_self, IntKind.bits, litA, appSrc, frzV, frzL, mkElt, List.replicate, List.set, Nat.reduceLeDiff, Nat.reduceBEq, Nat.reduceLT, decide_true, decide_false, List.getElem?_cons_zero, List.getElem?_cons_succ, List.getElem?_nil, Nat.reduceSub, gt_iff_lt, ge_iff_le, Int.reduceLT, Int.reduceLE, Int.reduceEq, Int.cast_ofNat_Int, Int.reduceToNat, implies_true, forall_const, Nat.reduceMul, keyV, elN, eqCells, binS, Ret, newElt, fillA, bound, h1, t1, h2, t2, h6, h7, t31, m1, q1, q2, agree_two, e1, t11]
          have hD := hroot a0 a1 qq (fun _ => .undef) (fun _ => .undef) (fun k hk => absurd hk (by omega)) k0 k1 (fun k hk => absurd hk (by omega)) (fun k hk => absurd hk (by omega))
          rw [hzn, hz1, hz2] at hD
          exact ⟨_, _, _, rfl, fun h => absurd rfl h, hD, rfl, hg⟩
        · simp -implicitDefEqProofs only [vq0, vq1, vq2, vq3, vq4, vq5, vq6, vq7, vq8, vq9, vqc, vqj, vqf, AI.val, EI.run, binI, kEq, env0, RetF, retL, retV, frzAL, part?, List.drop, List.take, List.all, List.length, List.map, List.append, List.nil_append, List.cons_append, List.append_nil, List.getD_cons_zero, List.getD_cons_succ, List.getD_nil, Option.map_some, Option.map_none, cond_true, cond_false, Nat.reduceEqDiff, Nat.reduceAdd, reduceIte, eq_self, IntKind.bits, litA, appSrc, frzV, frzL, mkElt, List.replicate, List.set, Nat.reduceLeDiff, Nat.reduceBEq, Nat.reduceLT, decide_true, decide_false, List.getElem?_cons_zero, List.getElem?_cons_succ, List.getElem?_nil, Nat.reduceSub, gt_iff_lt, ge_iff_le, Int.reduceLT, Int.reduceLE, Int.reduceEq, Int.cast_ofNat_Int, Int.reduceToNat, implies_true, forall_const, Nat.reduceMul, keyV, elN, eqCells, binS, Ret, newElt, fillA, bound, h1, t1, h2, t2, h6, h7, t31, m1, q1, q2, agree_two, e1, t11, ml]
          have hD := hroot a0 a1 qq (fun _ => .undef) r2 (fun k hk => absurd hk (by omega)) k0 k1 (fun k hk => absurd hk (by omega)) hr2
          rw [hzn, hz1] at hD
          exact ⟨_, _, _, rfl, fun h => absurd rfl h, hD, rfl, hg⟩
        · simp -implicitDefEqProofs only [vq0, vq1, vq2, vq3, vq4, vq5, vq6, vq7, vq8, vq9, vqc, vqj, vqf, AI.val, EI.run, binI, kEq, env0, RetF, retL, retV, frzAL, part?, List.drop, List.take, List.all, List.length, List.map, List.append, List.nil_append, List.cons_append, List.append_nil, List.getD_cons_zero, List.getD_cons_succ, List.getD_nil, Option.map_some, Option.map_none, cond_true, cond_false, Nat.reduceEqDiff, Nat.reduceAdd, reduceIte, eq_self, IntKind.bits, litA, appSrc, frzV, frzL, mkElt, List.replicate, List.set, Nat.reduceLeDiff, Nat.reduceBEq, Nat.reduceLT, decide_true, decide_false, List.getElem?_cons_zero, List.getElem?_cons_succ, List.getElem?_nil, Nat.reduceSub, gt_iff_lt, ge_iff_le, Int.reduceLT, Int.reduceLE, Int.reduceEq, Int.cast_ofNat_Int, Int.reduceToNat, implies_true, forall_const, Nat.reduceMul, keyV, elN, eqCells, binS, Ret, newElt, fillA, bound, h1, t1, h2, t2, h6, h7, t31, m1, q1, q2, agree_two, e1, t11, mr]
          have hD := hroot a0 a1 qq r1 (fun _ => .undef) (fun k hk => absurd hk (by omega)) k0 k1 hr1 (fun k hk => absurd hk (by omega))
          rw [hzn, hz2] at hD
          exact ⟨_, _, _, rfl, fun h => absurd rfl h, hD, rfl, hg⟩
        · simp -implicitDefEqProofs only [vq0, vq1, vq2, vq3, vq4, vq5, vq6, vq7, vq8, vq9, vqc, vqj, vqf, AI.val, EI.run, binI, kEq, env0, RetF, retL, retV, frzAL, part?, List.drop, List.take, List.all, List.length, List.map, List.append, List.nil_append, List.cons_append, List.append_nil, List.getD_cons_zero, List.getD_cons_succ, List.getD_nil, Option.map_some, Option.map_none, cond_true, cond_false, Nat.reduceEqDiff, Nat.reduceAdd, reduceIte, eq_self, IntKind.bits, litA, appSrc, frzV, frzL, mkElt, List.replicate, List.set, Nat.reduceLeDiff, Nat.reduceBEq, Nat.reduceLT, decide_true, decide_false, List.getElem?_cons_zero, List.getElem?_cons_succ, List.getElem?_nil, Nat.reduceSub, gt_iff_lt, ge_iff_le, Int.reduceLT, Int.reduceLE, Int.reduceEq, Int.cast_ofNat_Int, Int.reduceToNat, implies_true, forall_const, Nat.reduceMul, keyV, elN, eqCells, binS, Ret, newElt, fillA, bound, h1, t1, h2, t2, h6, h7, t31, m1, q1, q2, agree_two, e1, t11, mr, ml]
          have hD := hroot a0 a1 qq r1 r2 (fun k hk => absurd hk (by omega)) k0 k1 hr1 hr2
          rw [hzn] at hD
          exact ⟨_, _, _, rfl, fun h => absurd rfl h, hD, rfl, hg⟩
      · have lo := sSet_lo l6
        have hi' := sSet_hi l6
        have n1 : (1 = aid) = False := eq_false (by omega)
        have n2 : (2 = aid) = False := eq_false (by omega)
        have n3 : (31 = aid) = False := eq_false (by omega)
        have n4 : (1011 = aid) = False := eq_false (Ne.symm l7)
        refine CallW.frz (c := _) (args' := _) (mem' := _) (by simp -implicitDefEqProofs only [vq0, vq1, vq2, vq3, vq4, vq5, vq6, vq7, vq8, vq9, vqc, vqj, vqf, AI.val, EI.run, binI, kEq, env0, RetF, retL, retV, frzAL, part?, List.drop, List.take, List.all, List.length, List.map, List.append, List.nil_append, List.cons_append, List.append_nil, List.getD_cons_zero, List.getD_cons_succ, List.getD_nil, Option.map_some, Option.map_none, cond_true, cond_false, Nat.reduceEqDiff, Nat.reduceAdd, reduceIte, eq_self, IntKind.bits, litA, appSrc, frzV, frzL, mkElt, List.replicate, List.set, Nat.reduceLeDiff, Nat.reduceBEq, Nat.reduceLT, decide_true, decide_false, List.getElem?_cons_zero, List.getElem?_cons_succ, List.getElem?_nil, Nat.reduceSub, gt_iff_lt, ge_iff_le, Int.reduceLT, Int.reduceLE, Int.reduceEq, Int.cast_ofNat_Int, Int.reduceToNat, implies_true, forall_const, Nat.reduceMul, keyV, elN, eqCells, binS, Ret, newElt, fillA, bound, e3]; rfl) ?_ ?_
        · simp -implicitDefEqProofs only [vq0, vq1, vq2, vq3, vq4, vq5, vq6, vq7, vq8, vq9, vqc, vqj, vqf, AI.val, EI.run, binI, kEq, env0, RetF, retL, retV, frzAL, part?, List.drop, List.take, List.all, List.length, List.map, List.append, List.nil_append, List.cons_append, List.append_nil, List.getD_cons_zero, List.getD_cons_succ, List.getD_nil, Option.map_some, Option.map_none, cond_true, cond_false, Nat.reduceEqDiff, Nat.reduceAdd, reduceIte, eq_self, IntKind.bits, litA, appSrc, frzV, frzL, mkElt, List.replicate, List.set, Nat.reduceLeDiff, Nat.reduceBEq, Nat.reduceLT, decide_true, decide_false, List.getElem?_cons_zero, List.getElem?_cons_succ, List.getElem?_nil, Nat.reduceSub, gt_iff_lt, ge_iff_le, Int.reduceLT, Int.reduceLE, Int.reduceEq, Int.cast_ofNat_Int, Int.reduceToNat, implies_true, forall_const, Nat.reduceMul, keyV, elN, eqCells, binS, Ret, newElt, fillA, bound]
        refine CallW.fz (p82z (hs G G.na).1.n ff (fun i hi => by rw [hff i hi]; exact ⟨rfl, rfl⟩) (by have := hI.n; omega)) rfl rfl fun r ⟨qq, hr, hqq⟩ => ⟨by subst hr; rfl, ?_⟩
        subst hr
        simp -implicitDefEqProofs only [vq0, vq1, vq2, vq3, vq4, vq5, vq6, vq7, vq8, vq9, vqc, vqj, vqf, AI.val, EI.run, binI, kEq, env0, RetF, retL, retV, frzAL, part?, List.drop, List.take, List.all, List.length, List.map, List.append, List.nil_append, List.cons_append, List.append_nil, List.getD_cons_zero, List.getD_cons_succ, List.getD_nil, Option.map_some, Option.map_none, cond_true, cond_false, Nat.reduceEqDiff, Nat.reduceAdd, reduceIte, eq_self, IntKind.bits, litA, appSrc, frzV, frzL, mkElt, List.replicate, List.set, Nat.reduceLeDiff, Nat.reduceBEq, Nat.reduceLT, decide_true, decide_false, List.getElem?_cons_zero, List.getElem?_cons_succ, List.getElem?_nil, Nat.reduceSub, gt_iff_lt, ge_iff_le, Int.reduceLT, Int.reduceLE, Int.reduceEq, Int.cast_ofNat_Int, Int.reduceToNat, implies_true, forall_const, Nat.reduceMul, keyV, elN, eqCells, binS, Ret, newElt, fillA, bound, h1, m1, h2, m2, h6, h7, m31, q1, q2, agree_two, e1, n1, n2, n3, n4]
        refine (p84s 2000000 (id := 31) (iv := V) (by omega) hG0 ok gd (hs G G.na).1.n qq (hs G G.na).2 g hg (by simp only [set_at, n3, if_false]; exact m31)).mono fun r m' ⟨a0, a1, rv, lv, hr, hK, k0, k1, hR, hL⟩ => ?_
        subst hr
        have t1 : m' 1 = _ := (hK 1 (by omega)).trans ((set_ne (by omega) _ _).trans m1)
        have t2 : m' 2 = _ := (hK 2 (by omega)).trans ((set_ne (by omega) _ _).trans m2)
        have t31 : m' 31 = _ := (hK 31 (by omega)).trans ((set_ne (by omega) _ _).trans m31)
        have t11 : m' 1011 = _ := (hK 1011 (by omega)).trans ((set_ne (Ne.symm l7) _ _).trans e1)
        rcases hR with ⟨hz1, rfl⟩ | ⟨v1, r1, rfl, mr, hr1⟩ <;> rcases hL with ⟨hz2, rfl⟩ | ⟨v2, r2, rfl, ml, hr2⟩
        · simp -implicitDefEqProofs only [vq0, vq1, vq2, vq3, vq4, vq5, vq6, vq7, vq8, vq9, vqc, vqj, vqf, AI.val, EI.run, binI, kEq, env0, RetF, retL, retV, frzAL, part?, List.drop, List.take, List.all, List.length, List.map, List.append, List.nil_append, List.cons_append, List.append_nil, List.getD_cons_zero, List.getD_cons_succ, List.getD_nil, Option.map_some, Option.map_none, cond_true, cond_false, Nat.reduceEqDiff, Nat.reduceAdd, reduceIte, eq_self, IntKind.bits, litA, appSrc, frzV, frzL, mkElt, List.replicate, List.set, Nat.reduceLeDiff, Nat.reduceBEq, Nat.reduceLT, decide_true, decide_false, List.getElem?_cons_zero, List.getElem?_cons_succ, List.getElem?_nil, Nat.reduceSub, gt_iff_lt, ge_iff_le, Int.reduceLT, Int.reduceLE, Int.reduceEq, Int.cast_ofNat_Int, Int.reduceToNat, implies_true, forall_const, Nat.reduceMul, keyV, elN, eqCells, binS, Ret, newElt, fillA, bound, h1, t1, h2, t2, h6, h7, t31, m1, q1, q2, agree_two, e1, t11, n1, n2, n3, n4]
          have hD := hroot a0 a1 qq (fun _ => .undef) (fun _ => .undef) (fun k hk => by rw [hqq k hk, hff k hk]) k0 k1 (fun k hk => absurd hk (by omega)) (fun k hk => absurd hk (by omega))
          rw [hz1, hz2] at hD
          exact ⟨_, _, _, rfl, fun h => absurd rfl h, hD, rfl, hg⟩
        · simp -implicitDefEqProofs only [vq0, vq1, vq2, vq3, vq4, vq5, vq6, vq7, vq8, vq9, vqc, vqj, vqf, AI.val, EI.run, binI, kEq, env0, RetF, retL, retV, frzAL, part?, List.drop, List.take, List.all, List.length, List.map, List.append, List.nil_append, List.cons_append, List.append_nil, List.getD_cons_zero, List.getD_cons_succ, List.getD_nil, Option.map_some, Option.map_none, cond_true, cond_false, Nat.reduceEqDiff, Nat.reduceAdd, reduceIte, eq_self, IntKind.bits, litA, appSrc, frzV, frzL, mkElt, List.replicate, List.set, Nat.reduceLeDiff, Nat.reduceBEq, Nat.reduceLT, decide_true, decide_false, List.getElem?_cons_zero, List.getElem?_cons_succ, List.getElem?_nil, Nat.reduceSub, gt_iff_lt, ge_iff_le, Int.reduceLT, Int.reduceLE, Int.reduceEq, Int.cast_ofNat_Int, Int.reduceToNat, implies_true, forall_const, Nat.reduceMul, keyV, elN, eqCells, binS, Ret, newElt, fillA, bound, h1, t1, h2, t2, h6, h7, t31, m1, q1, q2, agree_two, e1, t11, n1, n2, n3, n4, ml]
          have hD := hroot a0 a1 qq (fun _ => .undef) r2 (fun k hk => by rw [hqq k hk, hff k hk]) k0 k1 (fun k hk => absurd hk (by omega)) hr2
          rw [hz1] at hD
          exact ⟨_, _, _, rfl, fun h => absurd rfl h, hD, rfl, hg⟩
        · simp -implicitDefEqProofs only [vq0, vq1, vq2, vq3, vq4, vq5, vq6, vq7, vq8, vq9, vqc, vqj, vqf, AI.val, EI.run, binI, kEq, env0, RetF, retL, retV, frzAL, part?, List.drop, List.take, List.all, List.length, List.map, List.append, List.nil_append, List.cons_append, List.append_nil, List.getD_cons_zero, List.getD_cons_succ, List.getD_nil, Option.map_some, Option.map_none, cond_true, cond_false, Nat.reduceEqDiff, Nat.reduceAdd, reduceIte, eq_self, IntKind.bits, litA, appSrc, frzV, frzL, mkElt, List.replicate, List.set, Nat.reduceLeDiff, Nat.reduceBEq, Nat.reduceLT, decide_true, decide_false, List.getElem?_cons_zero, List.getElem?_cons_succ, List.getElem?_nil, Nat.reduceSub, gt_iff_lt, ge_iff_le, Int.reduceLT, Int.reduceLE, Int.reduceEq, Int.cast_ofNat_Int, Int.reduceToNat, implies_true, forall_const, Nat.reduceMul, keyV, elN, eqCells, binS, Ret, newElt, fillA, bound, h1, t1, h2, t2, h6, h7, t31, m1, q1, q2, agree_two, e1, t11, n1, n2, n3, n4, mr]
          have hD := hroot a0 a1 qq r1 (fun _ => .undef) (fun k hk => by rw [hqq k hk, hff k hk]) k0 k1 hr1 (fun k hk => absurd hk (by omega))
          rw [hz2] at hD
          exact ⟨_, _, _, rfl, fun h => absurd rfl h, hD, rfl, hg⟩
        · simp -implicitDefEqProofs only [vq0, vq1, vq2, vq3, vq4, vq5, vq6, vq7, vq8, vq9, vqc, vqj, vqf, AI.val, EI.run, binI, kEq, env0, RetF, retL, retV, frzAL, part?, List.drop, List.take, List.all, List.length, List.map, List.append, List.nil_append, List.cons_append, List.append_nil, List.getD_cons_zero, List.getD_cons_succ, List.getD_nil, Option.map_some, Option.map_none, cond_true, cond_false, Nat.reduceEqDiff, Nat.reduceAdd, reduceIte, eq_self, IntKind.bits, litA, appSrc, frzV, frzL, mkElt, List.replicate, List.set, Nat.reduceLeDiff, Nat.reduceBEq, Nat.reduceLT, decide_true, decide_false, List.getElem?_cons_zero, List.getElem?_cons_succ, List.getElem?_nil, Nat.reduceSub, gt_iff_lt, ge_iff_le, Int.reduceLT, Int.reduceLE, Int.reduceEq, Int.cast_ofNat_Int, Int.reduceToNat, implies_true, forall_const, Nat.reduceMul, keyV, elN, eqCells, binS, Ret, newElt, fillA, bound, h1, t1, h2, t2, h6, h7, t31, m1, q1, q2, agree_two, e1, t11, n1, n2, n3, n4, mr, ml]
          have hD := hroot a0 a1 qq r1 r2 (fun k hk => by rw [hqq k hk, hff k hk]) k0 k1 hr1 hr2
          exact ⟨_, _, _, rfl, fun h => absurd rfl h, hD, rfl, hg⟩
end Go.Ab
