/- What Strash leaves, plainly. -/
import Derived.Test.YtodncnlnadgkhacSaMaker
import Derived.Test.YtodncnlnadgkhacLwGraph
set_option linter.unusedSimpArgs false
set_option linter.unusedVariables false
namespace Go.Ab
open Go
def mvL (to : Nat → Int) (l : Int) : Int := bitop .xor .i64 (to (ndx l)) (l % 2)
/-- The maker and the literals of the nodes behind the first i ands. -/
def hs (G : Gra) : Nat → Mak × (Nat → Int)
  | 0 => (newM G.ni G.nr, fun k => 2 * (k : Int))
  | i + 1 => (((hs G i).1.andF (mvL (hs G i).2 (G.A i)) (mvL (hs G i).2 (G.B i))).2, fun k => if k = G.base + i then ((hs G i).1.andF (mvL (hs G i).2 (G.A i)) (mvL (hs G i).2 (G.B i))).1 else (hs G i).2 k)
/-- What is known behind the first i ands. -/
structure HsI (G : Gra) (i : Nat) : Prop where
  ni : (hs G i).1.ni = G.ni
  nr : (hs G i).1.nr = G.nr
  n : (hs G i).1.n ≤ i
  bad : (hs G i).1.bad = 0
  to : ∀ k, k < G.base + i → (hs G i).1.bef ((hs G i).2 k)
  ops : ∀ k, k < (hs G i).1.n → (hs G i).1.bef ((hs G i).1.A k) ∧ (hs G i).1.bef ((hs G i).1.B k)
theorem bef_bit {M : Mak} (hn : M.nodes ≤ 1048576) {a : Int} (h : M.bef a) {c : Int} (hc : c = 0 ∨ c = 1) : M.bef (bitop .xor .i64 a c) := by
  obtain ⟨h0, h1⟩ := h
  rcases hc with rfl | rfl
  · rw [xor_zero h0 (by omega)]; exact ⟨h0, h1⟩
  · have := x1_val h0 (by omega)
    unfold x1 at this
    rw [this]
    split
    · exact ⟨by omega, by omega⟩
    · exact ⟨by omega, by omega⟩
theorem bef_mono {M M' : Mak} (h : M.nodes ≤ M'.nodes) {a : Int} (ha : M.bef a) : M'.bef a := ⟨ha.1, by have := ha.2; omega⟩
theorem nodes_eq {M : Mak} {G : Gra} (h1 : M.ni = G.ni) (h2 : M.nr = G.nr) : M.base = G.base := by unfold Mak.base Gra.base; rw [h1, h2]
theorem andS_ni (M : Mak) (a b : Int) : (M.andS a b).2.2.ni = M.ni ∧ (M.andS a b).2.2.nr = M.nr := by
  unfold Mak.andS
  split
  · exact ⟨rfl, rfl⟩
  · split
    · exact ⟨rfl, rfl⟩
    · split
      · exact ⟨rfl, rfl⟩
      · split <;> exact ⟨rfl, rfl⟩
/-- An 'and' that there is room for. -/
theorem andS_room {M : Mak} (hn : M.n < 4000) {a b : Int} (ha : M.bef a) (hb : M.bef b) (ho : ∀ k, k < M.n → M.bef (M.A k) ∧ M.bef (M.B k)) :
    (M.andS a b).2.2.n ≤ M.n + 1 ∧ M.n ≤ (M.andS a b).2.2.n ∧ (M.andS a b).2.2.bad = M.bad ∧ (M.andS a b).2.2.bef (M.andS a b).1 ∧ ∀ k, k < (M.andS a b).2.2.n → (M.andS a b).2.2.bef ((M.andS a b).2.2.A k) ∧ (M.andS a b).2.2.bef ((M.andS a b).2.2.B k) := by
  unfold Mak.andS
  have hbase : 0 < M.base := by unfold Mak.base; omega
  split
  · exact ⟨Nat.le_succ _, Nat.le_refl _, rfl, ⟨Int.le_refl 0, by show (0 : Int) < 2 * ((M.base + M.n : Nat) : Int); omega⟩, ho⟩
  · split
    · exact ⟨Nat.le_succ _, Nat.le_refl _, rfl, hb, ho⟩
    · split
      · rename_i h3
        exact ⟨Nat.le_succ _, Nat.le_refl _, rfl, ⟨by show (0 : Int) ≤ 2 * ((M.base + M.idx a b : Nat) : Int); omega, by show (2 : Int) * ((M.base + M.idx a b : Nat) : Int) < 2 * ((M.base + M.n : Nat) : Int); omega⟩, ho⟩
      · rw [if_neg (by omega)]
        have hp : (M.push a b).nodes = M.nodes + 1 := by show M.base + (M.n + 1) = M.base + M.n + 1; omega
        refine ⟨by show M.n + 1 ≤ M.n + 1; omega, by show M.n ≤ M.n + 1; omega, rfl, ⟨by show (0 : Int) ≤ 2 * ((M.nodes : Nat) : Int); omega, by rw [hp]; show (2 : Int) * ((M.nodes : Nat) : Int) < _; omega⟩, fun k hk => ?_⟩
        have hk : k < M.n + 1 := hk
        show (M.push a b).bef (if k = M.n then a else M.A k) ∧ (M.push a b).bef (if k = M.n then b else M.B k)
        by_cases e : k = M.n
        · rw [if_pos e, if_pos e]; exact ⟨bef_mono (by omega) ha, bef_mono (by omega) hb⟩
        · rw [if_neg e, if_neg e]; exact ⟨bef_mono (by omega) (ho k (by omega)).1, bef_mono (by omega) (ho k (by omega)).2⟩
theorem hs_inv {G : Gra} (gd : G.Good) : ∀ i, i ≤ G.na → HsI G i
  | 0, _ => ⟨rfl, rfl, Nat.le_refl _, rfl, fun k hk => ⟨by show (0 : Int) ≤ 2 * (k : Int); omega, by
      have e : (newM G.ni G.nr).nodes = G.base := rfl
      show (2 : Int) * (k : Int) < 2 * ((newM G.ni G.nr).nodes : Nat)
      rw [e]; omega⟩, fun k hk => absurd hk (Nat.not_lt_zero _)⟩
  | i + 1, hi => by
    have h := hs_inv gd i (by omega)
    have b1 := gd.ni; have b2 := gd.nr; have b3 := gd.na
    have hB := nodes_eq h.ni h.nr
    have hN : (hs G i).1.nodes ≤ 1048576 := by
      have := h.n
      show (hs G i).1.base + (hs G i).1.n ≤ _
      rw [hB]
      have hb : G.base = 1 + G.ni + G.nr := rfl
      omega
    have ha : (hs G i).1.bef (mvL (hs G i).2 (G.A i)) := bef_bit hN (h.to _ (ndx_lt (gd.A i (by omega)))) (by omega)
    have hb : (hs G i).1.bef (mvL (hs G i).2 (G.B i)) := bef_bit hN (h.to _ (ndx_lt (gd.B i (by omega)))) (by omega)
    have hn := h.n
    have ha' : (hs G i).1.bef (if mvL (hs G i).2 (G.B i) < mvL (hs G i).2 (G.A i) then mvL (hs G i).2 (G.B i) else mvL (hs G i).2 (G.A i)) := by split <;> assumption
    have hb' : (hs G i).1.bef (if mvL (hs G i).2 (G.B i) > mvL (hs G i).2 (G.A i) then mvL (hs G i).2 (G.B i) else mvL (hs G i).2 (G.A i)) := by split <;> assumption
    have key : (hs G i).1.andF (mvL (hs G i).2 (G.A i)) (mvL (hs G i).2 (G.B i)) = (((hs G i).1.andS (if mvL (hs G i).2 (G.B i) < mvL (hs G i).2 (G.A i) then mvL (hs G i).2 (G.B i) else mvL (hs G i).2 (G.A i)) (if mvL (hs G i).2 (G.B i) > mvL (hs G i).2 (G.A i) then mvL (hs G i).2 (G.B i) else mvL (hs G i).2 (G.A i))).1, ((hs G i).1.andS (if mvL (hs G i).2 (G.B i) < mvL (hs G i).2 (G.A i) then mvL (hs G i).2 (G.B i) else mvL (hs G i).2 (G.A i)) (if mvL (hs G i).2 (G.B i) > mvL (hs G i).2 (G.A i) then mvL (hs G i).2 (G.B i) else mvL (hs G i).2 (G.A i))).2.2) := by
      unfold Mak.andF
      rw [if_pos ⟨ha, hb⟩]
      rfl
    obtain ⟨r1, r2, r3, r4, r5⟩ := andS_room (M := (hs G i).1) (by omega) ha' hb' h.ops
    obtain ⟨s1, s2⟩ := andS_ni (hs G i).1 (if mvL (hs G i).2 (G.B i) < mvL (hs G i).2 (G.A i) then mvL (hs G i).2 (G.B i) else mvL (hs G i).2 (G.A i)) (if mvL (hs G i).2 (G.B i) > mvL (hs G i).2 (G.A i) then mvL (hs G i).2 (G.B i) else mvL (hs G i).2 (G.A i))
    have e1 : (hs G (i + 1)).1 = ((hs G i).1.andF (mvL (hs G i).2 (G.A i)) (mvL (hs G i).2 (G.B i))).2 := rfl
    have e2 : (hs G (i + 1)).2 = fun k => if k = G.base + i then ((hs G i).1.andF (mvL (hs G i).2 (G.A i)) (mvL (hs G i).2 (G.B i))).1 else (hs G i).2 k := rfl
    generalize ((hs G i).1.andS (if mvL (hs G i).2 (G.B i) < mvL (hs G i).2 (G.A i) then mvL (hs G i).2 (G.B i) else mvL (hs G i).2 (G.A i)) (if mvL (hs G i).2 (G.B i) > mvL (hs G i).2 (G.A i) then mvL (hs G i).2 (G.B i) else mvL (hs G i).2 (G.A i))) = R at *
    rw [key] at e1 e2
    simp only at e1 e2
    have hle : (hs G i).1.nodes ≤ R.2.2.nodes := by
      show (hs G i).1.base + (hs G i).1.n ≤ R.2.2.base + R.2.2.n
      have : R.2.2.base = (hs G i).1.base := by unfold Mak.base; rw [s1, s2]
      omega
    refine ⟨by rw [e1, s1, h.ni], by rw [e1, s2, h.nr], by rw [e1]; omega, by rw [e1, r3, h.bad], fun k hk => ?_, by rw [e1]; exact r5⟩
    rw [e1, e2]
    simp only
    by_cases e : k = G.base + i
    · rw [if_pos e]; exact r4
    · rw [if_neg e]; exact bef_mono hle (h.to k (by omega))
/-- The graph that is left. -/
def strG (G : Gra) : Gra where
  ni := G.ni
  inn := G.inn
  no := G.no
  out := G.out
  nr := G.nr
  reg := fun i => ⟨(G.reg i).name, mvL (hs G G.na).2 (G.reg i).next, (G.reg i).init⟩
  na := (hs G G.na).1.n
  A := (hs G G.na).1.A
  B := (hs G G.na).1.B
  nk := G.nk
  outs := fun i => mvL (hs G G.na).2 (G.outs i)

def sSet (i : Nat) : Nat → Prop := Ext (fun _ => False) 1000 (1100 + 200 * i)
theorem sSet_lo {i k : Nat} (h : sSet i k) : 1000 ≤ k := h.elim (fun h => h.elim) (fun h => h.1)
theorem sSet_hi {i k : Nat} (h : sSet i k) : k < 1100 + 200 * i := h.elim (fun h => h.elim) (fun h => h.2)
theorem sSet_succ (i : Nat) : Ext (sSet i) (1100 + 200 * i) (1100 + 200 * i + 200) = sSet (i + 1) := by
  funext k; apply propext; unfold sSet Ext
  constructor
  · rintro ((h | h) | h)
    · exact .inl h
    · exact .inr ⟨h.1, by omega⟩
    · exact .inr ⟨by omega, by omega⟩
  · rintro (h | h)
    · exact .inl (.inl h)
    · by_cases q : k < 1100 + 200 * i
      · exact .inl (.inr ⟨h.1, q⟩)
      · exact .inr ⟨by omega, by omega⟩
theorem MkA.lo {mem : Mem} {o v : Nat} {fi fr : Nat → AV} {M : Mak} {i k : Nat} {q : AO} (h : MkA mem o v fi fr M (sSet i)) (hk : k < 1000) : MkA (Mem.set k q mem) o v fi fr M (sSet i) :=
  h.setOut fun h => by have := sSet_lo h; omega
theorem hs_ok {G : Gra} (gd : G.Good) {i : Nat} (hi : i ≤ G.na) : (hs G i).1.Ok := by
  have h := hs_inv gd i hi
  have b1 := gd.ni; have b2 := gd.nr; have b3 := gd.na
  exact ⟨by rw [h.ni]; omega, by rw [h.nr]; omega, by have := h.n; omega⟩
end Go.Ab
