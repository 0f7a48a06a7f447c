/- What a maker's literals are worth, plainly; and what is left when there is no room. -/
import Derived.Test.YtodncnlnadgkhacSaMak2
import Derived.Test.YtodncnlnadgkhacLwValues
set_option linter.unusedSimpArgs false
set_option linter.unusedVariables false
namespace Go.Ab
open Go
/-- The graph of a maker, as far as values go. -/
def Mak.gr (M : Mak) : Gra := ⟨M.ni, fun _ => default, 0, fun _ => default, M.nr, fun _ => default, M.n, M.A, M.B, 0, fun _ => 0⟩
def Mak.nv (M : Mak) (x y : Nat → Bool) (k : Nat) : Bool := gb M.gr x y M.n k
/-- The value of a literal. -/
def Mak.lv (M : Mak) (x y : Nat → Bool) (l : Int) : Bool := ofB (M.nv x y) l
theorem gb_congr {G H : Gra} (h1 : G.ni = H.ni) (h2 : G.base = H.base) (x y : Nat → Bool) : ∀ i, (∀ k, k < i → G.A k = H.A k ∧ G.B k = H.B k) → ∀ k, gb G x y i k = gb H x y i k
  | 0, _, k => by simp only [gb, h1]
  | i + 1, h, k => by
    have ih := gb_congr h1 h2 x y i fun k hk => h k (by omega)
    have e : gb G x y i = gb H x y i := funext ih
    simp only [gb, h2, e, (h i (by omega)).1, (h i (by omega)).2]
/-- The ands of M are the first ones of M'. -/
structure Mak.Pre (M M' : Mak) : Prop where
  ni : M'.ni = M.ni
  nr : M'.nr = M.nr
  lo : M.n ≤ M'.n
  A : ∀ k, k < M.n → M'.A k = M.A k
  B : ∀ k, k < M.n → M'.B k = M.B k
theorem Mak.Pre.refl (M : Mak) : M.Pre M := ⟨rfl, rfl, Nat.le_refl _, fun _ _ => rfl, fun _ _ => rfl⟩
theorem Mak.Pre.trans {M M' M'' : Mak} (h : M.Pre M') (k : M'.Pre M'') : M.Pre M'' := ⟨k.ni.trans h.ni, k.nr.trans h.nr, Nat.le_trans h.lo k.lo, fun i hi => (k.A i (Nat.lt_of_lt_of_le hi h.lo)).trans (h.A i hi), fun i hi => (k.B i (Nat.lt_of_lt_of_le hi h.lo)).trans (h.B i hi)⟩
theorem Mak.Pre.nv {M M' : Mak} (h : M.Pre M') (x y : Nat → Bool) {k : Nat} (hk : k < M.nodes) : M'.nv x y k = M.nv x y k := by
  have e1 : M.nodes = 1 + M.ni + M.nr + M.n := rfl
  have e2 : M'.gr.base = 1 + M'.ni + M'.nr := rfl
  have e3 : M.gr.base = 1 + M.ni + M.nr := rfl
  have e4 := h.ni; have e5 := h.nr
  unfold Mak.nv
  rw [gb_far M'.gr x y M'.n M.n k h.lo (by omega)]
  exact gb_congr h.ni (by omega) x y M.n (fun i hi => ⟨h.A i hi, h.B i hi⟩) k
theorem Mak.Pre.lv {M M' : Mak} (h : M.Pre M') (x y : Nat → Bool) {l : Int} (hl : M.bef l) : M'.lv x y l = M.lv x y l := by
  unfold Mak.lv ofB
  rw [h.nv x y (ndx_lt hl)]
theorem Mak.Pre.bef {M M' : Mak} (h : M.Pre M') {l : Int} (hl : M.bef l) : M'.bef l := by
  obtain ⟨h1, h2⟩ := hl
  have e1 : M.nodes = 1 + M.ni + M.nr + M.n := rfl
  have e2 : M'.nodes = 1 + M'.ni + M'.nr + M'.n := rfl
  have := h.lo; have := h.ni; have := h.nr
  exact ⟨h1, by omega⟩
theorem nv_base {M : Mak} (x y : Nat → Bool) {k : Nat} (hk : k < M.base) : M.nv x y k = bBaseG M.ni x y k := by
  unfold Mak.nv
  rw [gb_far M.gr x y M.n 0 k (Nat.zero_le _) hk]
  rfl
theorem nv_and {M : Mak} (hg : M.Good) (x y : Nat → Bool) {k : Nat} (hk : k < M.n) : M.nv x y (M.base + k) = (M.lv x y (M.A k) && M.lv x y (M.B k)) := by
  have e3 : M.gr.base = M.base := rfl
  have hf : ∀ l, litOk (M.base + k) l → ofB (gb M.gr x y k) l = M.lv x y l := fun l hl => by
    show _ = Bool.xor (gb M.gr x y M.n (ndx l)) (decide (l % 2 = 1))
    rw [gb_far M.gr x y M.n k _ (by omega) (by rw [e3]; exact ndx_lt hl)]
    rfl
  obtain ⟨q1, q2⟩ := hg k hk
  unfold Mak.nv
  rw [gb_far M.gr x y M.n (k + 1) _ (by omega) (by omega)]
  simp only [gb, e3, if_true]
  show (ofB (gb M.gr x y k) (M.A k) && ofB (gb M.gr x y k) (M.B k)) = _
  rw [hf _ q1, hf _ q2]
theorem lv_zero (M : Mak) (x y : Nat → Bool) : M.lv x y 0 = false := by
  unfold Mak.lv ofB
  rw [show ndx 0 = 0 from rfl, nv_base x y (by show 0 < 1 + M.ni + M.nr; omega)]
  rfl
theorem lv_one (M : Mak) (x y : Nat → Bool) : M.lv x y 1 = true := by
  unfold Mak.lv ofB
  rw [show ndx 1 = 0 from rfl, nv_base x y (by show 0 < 1 + M.ni + M.nr; omega)]
  rfl
theorem lv_x1 {M : Mak} (ok : M.Ok) (x y : Nat → Bool) {l : Int} (hl : M.bef l) : M.lv x y (x1 l) = !M.lv x y l := by
  have := Mak.nodes_le ok
  obtain ⟨h1, h2⟩ := hl
  unfold Mak.lv ofB ndx
  rw [x1_val h1 (by omega)]
  by_cases e : l % 2 = 0
  · rw [if_pos e, show ((l + 1) / 2).toNat = (l / 2).toNat by omega, decide_eq_true (by omega : (l + 1) % 2 = 1), decide_eq_false (by omega : ¬ l % 2 = 1)]
    cases M.nv x y (l / 2).toNat <;> rfl
  · rw [if_neg e, show ((l - 1) / 2).toNat = (l / 2).toNat by omega, decide_eq_false (by omega : ¬ (l - 1) % 2 = 1), decide_eq_true (by omega : l % 2 = 1)]
    cases M.nv x y (l / 2).toNat <;> rfl
theorem lv_not {M : Mak} (ok : M.Ok) (x y : Nat → Bool) {l : Int} (hl : M.bef l) : M.lv x y (notL l) = !M.lv x y l := by
  unfold notL
  rw [if_neg (by have := hl.1; omega)]
  exact lv_x1 ok x y hl
theorem lv_node (M : Mak) (x y : Nat → Bool) (k : Nat) : M.lv x y (2 * (k : Nat)) = M.nv x y k := by
  unfold Mak.lv ofB ndx
  rw [show ((2 * (k : Int)) / 2).toNat = k by omega, decide_eq_false (by omega)]
  cases M.nv x y k <;> rfl

/-- At most c ands more, all of them good, behind the old ones; if b is false there was no room. -/
def Mak.Nd (M : Mak) : Prop := ∀ k, k < M.n → 2 ≤ M.A k ∧ M.A k < M.B k ∧ M.A k ≠ x1 (M.B k) ∧ ∀ j, j < k → ¬ (M.A j = M.A k ∧ M.B j = M.B k)
structure MS (M M' : Mak) (c : Nat) (b : Bool) : Prop where
  pre : M.Pre M'
  hi : M'.n ≤ M.n + c
  good : M'.Good
  ok : M'.Ok
  fine : b = true → M'.bad = M.bad
  full : b = false → M'.bad = (M.fail 3).bad ∧ 4000 < M.n + c
  nd : M.Nd → M'.Nd
theorem MS.refl {M : Mak} (ok : M.Ok) (h : M.Good) {c : Nat} : MS M M c true := ⟨.refl M, Nat.le_add_right _ _, h, ok, fun _ => rfl, fun e => Bool.noConfusion e, id⟩
theorem fail_bad {M M' : Mak} (h : M'.bad = (M.fail 3).bad) : (M'.fail 3).bad = (M.fail 3).bad := by
  show (if M'.bad = 0 then (3 : Int) else M'.bad) = _
  rw [h]
  show (if (if M.bad = 0 then (3 : Int) else M.bad) = 0 then (3 : Int) else (if M.bad = 0 then (3 : Int) else M.bad)) = (if M.bad = 0 then (3 : Int) else M.bad)
  by_cases e : M.bad = 0
  · simp [e]
  · simp [e]
theorem fail_same {M M' : Mak} (h : M'.bad = M.bad) : (M'.fail 3).bad = (M.fail 3).bad := by
  show (if M'.bad = 0 then (3 : Int) else M'.bad) = (if M.bad = 0 then (3 : Int) else M.bad)
  rw [h]
theorem MS.trans {M M' M'' : Mak} {c d : Nat} {b b' : Bool} (h : MS M M' c b) (k : MS M' M'' d b') : MS M M'' (c + d) (b && b') := by
  refine ⟨h.pre.trans k.pre, by have := h.hi; have := k.hi; omega, k.good, k.ok, fun e => ?_, fun e => ?_, fun e => k.nd (h.nd e)⟩
  · cases b with
    | false => exact Bool.noConfusion e
    | true =>
      cases b' with
      | false => exact Bool.noConfusion e
      | true => exact (k.fine rfl).trans (h.fine rfl)
  · have := h.hi
    cases b with
    | false =>
      obtain ⟨q1, q2⟩ := h.full rfl
      refine ⟨?_, by omega⟩
      cases b' with
      | false => exact (k.full rfl).1.trans (fail_bad q1)
      | true => exact (k.fine rfl).trans q1
    | true =>
      cases b' with
      | false => exact ⟨(k.full rfl).1.trans (fail_same (h.fine rfl)), by have := (k.full rfl).2; omega⟩
      | true => exact Bool.noConfusion e
theorem MS.mono {M M' : Mak} {c d : Nat} {b : Bool} (h : MS M M' c b) (hc : c ≤ d) : MS M M' d b := ⟨h.pre, by have := h.hi; omega, h.good, h.ok, h.fine, fun e => ⟨(h.full e).1, by have := (h.full e).2; omega⟩, h.nd⟩
theorem MS.bool {M M' : Mak} {c : Nat} {b b' : Bool} (h : MS M M' c b) (e : b = b') : MS M M' c b' := e ▸ h
theorem andS_ms {M : Mak} (ok : M.Ok) (hg : M.Good) {a b : Int} (ha : M.bef a) (hb : M.bef b) (hab : a ≤ b) : MS M (M.andS a b).2.2 1 (M.andS a b).2.1 ∧ ((M.andS a b).2.1 = true → (M.andS a b).2.2.bef (M.andS a b).1 ∧ ∀ x y, (M.andS a b).2.2.lv x y (M.andS a b).1 = (M.lv x y a && M.lv x y b)) := by
  have e1 : M.nodes = M.base + M.n := rfl
  have e2 : M.base = 1 + M.ni + M.nr := rfl
  have hok := andS_ok ok a b
  unfold Mak.andS at hok ⊢
  split
  · rename_i h
    refine ⟨.refl ok hg, fun _ => ⟨⟨Int.le_refl _, by show (0 : Int) < 2 * ((M.nodes : Nat) : Int); omega⟩, fun x y => ?_⟩⟩
    show M.lv x y 0 = _
    rcases h with rfl | rfl
    · rw [lv_zero]; rfl
    · rw [lv_zero, lv_x1 ok x y hb]; cases M.lv x y b <;> rfl
  · split
    · rename_i h
      refine ⟨.refl ok hg, fun _ => ⟨hb, fun x y => ?_⟩⟩
      show M.lv x y b = _
      rcases h with rfl | rfl
      · rw [lv_one]; rfl
      · cases M.lv x y a <;> rfl
    · split
      · rename_i h
        refine ⟨.refl ok hg, fun _ => ⟨⟨by show (0 : Int) ≤ 2 * ((M.base + M.idx a b : Nat) : Int); omega, by show 2 * ((M.base + M.idx a b : Nat) : Int) < 2 * ((M.nodes : Nat) : Int); omega⟩, fun x y => ?_⟩⟩
        show M.lv x y (2 * ((M.base + M.idx a b : Nat) : Int)) = _
        rw [lv_node, nv_and hg x y h]
        obtain ⟨q1, q2⟩ := find2_lt (A := M.A) (B := M.B) (x := a) (y := b) h
        rw [show M.A (M.idx a b) = a from q1, show M.B (M.idx a b) = b from q2]
      · split
        · rename_i h
          exact ⟨⟨⟨rfl, rfl, Nat.le_refl _, fun _ _ => rfl, fun _ _ => rfl⟩, Nat.le_succ _, hg, fail_ok ok 3, fun e => Bool.noConfusion e, fun _ => ⟨rfl, by omega⟩, id⟩, fun e => Bool.noConfusion e⟩
        · rename_i h0 h1 h2 h3
          have h4 : M.n + 1 ≤ 4000 := by have := ok.n; omega
          have hG : (M.push a b).Good := fun k hk => by
            have hk : k < M.n + 1 := hk
            show litOk (M.base + k) (if k = M.n then a else M.A k) ∧ litOk (M.base + k) (if k = M.n then b else M.B k)
            by_cases e : k = M.n
            · rw [if_pos e, if_pos e, e]; exact ⟨ha, hb⟩
            · rw [if_neg e, if_neg e]; exact hg k (by omega)
          have hP : M.Pre (M.push a b) := ⟨rfl, rfl, Nat.le_succ _, fun k hk => if_neg (by omega), fun k hk => if_neg (by omega)⟩
          have hN : M.Nd → (M.push a b).Nd := fun hd k hk => by
            have hk : k < M.n + 1 := hk
            show 2 ≤ (if k = M.n then a else M.A k) ∧ (if k = M.n then a else M.A k) < (if k = M.n then b else M.B k) ∧ (if k = M.n then a else M.A k) ≠ x1 (if k = M.n then b else M.B k) ∧ ∀ j, j < k → ¬ ((if j = M.n then a else M.A j) = (if k = M.n then a else M.A k) ∧ (if j = M.n then b else M.B j) = (if k = M.n then b else M.B k))
            by_cases e : k = M.n
            · rw [if_pos e, if_pos e]
              have := ha.1
              refine ⟨by omega, by omega, fun q => h0 (.inr q), fun j hj => ?_⟩
              rw [if_neg (by omega), if_neg (by omega)]
              rintro ⟨q1, q2⟩
              exact h2 (Nat.lt_of_le_of_lt (find2_of (by omega) q1 q2) (show j < M.n by omega))
            · rw [if_neg e, if_neg e]
              obtain ⟨d1, d2, d3, d4⟩ := hd k (by omega)
              refine ⟨d1, d2, d3, fun j hj => ?_⟩
              rw [if_neg (by omega), if_neg (by omega)]
              exact d4 j hj
          refine ⟨⟨hP, Nat.le_refl _, hG, ⟨ok.ni, ok.nr, h4⟩, fun _ => rfl, fun e => Bool.noConfusion e, hN⟩, fun _ => ⟨⟨by show (0 : Int) ≤ 2 * (M.nodes : Nat); omega, by show 2 * (M.nodes : Int) < 2 * ((M.base + (M.n + 1) : Nat) : Int); omega⟩, fun x y => ?_⟩⟩
          show (M.push a b).lv x y (2 * ((M.nodes : Nat) : Int)) = _
          rw [lv_node, show M.nodes = (M.push a b).base + M.n from rfl, nv_and hG x y (show M.n < M.n + 1 by omega)]
          rw [show (M.push a b).A M.n = a from if_pos rfl, show (M.push a b).B M.n = b from if_pos rfl, hP.lv x y ha, hP.lv x y hb]
theorem and_ms {M : Mak} (ok : M.Ok) (hg : M.Good) {a b : Int} (ha : M.bef a) (hb : M.bef b) : MS M (M.and a b).2.2 1 (M.and a b).2.1 ∧ ((M.and a b).2.1 = true → (M.and a b).2.2.bef (M.and a b).1 ∧ ∀ x y, (M.and a b).2.2.lv x y (M.and a b).1 = (M.lv x y a && M.lv x y b)) := by
  unfold Mak.and
  by_cases h : b < a
  · rw [if_pos h, if_neg (by omega : ¬ b > a)]
    obtain ⟨h1, h2⟩ := andS_ms ok hg hb ha (by omega)
    exact ⟨h1, fun e => ⟨(h2 e).1, fun x y => by rw [(h2 e).2 x y, Bool.and_comm]⟩⟩
  · rw [if_neg h]
    by_cases k : b > a
    · rw [if_pos k]; exact andS_ms ok hg ha hb (by omega)
    · rw [if_neg k]
      obtain rfl : a = b := by omega
      exact andS_ms ok hg ha ha (Int.le_refl _)
theorem bef0 (M : Mak) : M.bef 0 := ⟨Int.le_refl _, by show (0 : Int) < 2 * ((1 + M.ni + M.nr + M.n : Nat) : Int); omega⟩
theorem bef1 (M : Mak) : M.bef 1 := ⟨by decide, by show (1 : Int) < 2 * ((1 + M.ni + M.nr + M.n : Nat) : Int); omega⟩
theorem pair_ms {M : Mak} (ok : M.Ok) (hg : M.Good) {a b c d : Int} (ha : M.bef a) (hb : M.bef b) (hc : M.bef c) (hd : M.bef d) : MS M (M.pair a b c d).2.2 3 (M.pair a b c d).2.1 ∧ (M.pair a b c d).2.2.bef (M.pair a b c d).1 ∧ ((M.pair a b c d).2.1 = true → ∀ x y, (M.pair a b c d).2.2.lv x y (M.pair a b c d).1 = ((M.lv x y a && M.lv x y b) || (M.lv x y c && M.lv x y d))) := by
  obtain ⟨s1, t1⟩ := and_ms ok hg ha hb
  obtain ⟨s2, t2⟩ := and_ms s1.ok s1.good (s1.pre.bef hc) (s1.pre.bef hd)
  have s12 := s1.trans s2
  generalize hr : M.and a b = r at *
  generalize hs : r.2.2.and c d = s at *
  unfold Mak.pair
  simp only [hr, hs]
  by_cases q : r.2.1 = false ∨ s.2.1 = false
  · rw [if_pos q]
    exact ⟨(s12.mono (by decide)).bool (by rcases q with q | q <;> simp [q]), bef0 _, fun e => Bool.noConfusion e⟩
  · rw [if_neg q]
    have q1 : r.2.1 = true := by cases h : r.2.1 with | true => rfl | false => exact absurd (.inl h) q
    have q2 : s.2.1 = true := by cases h : s.2.1 with | true => rfl | false => exact absurd (.inr h) q
    obtain ⟨v1, w1⟩ := t1 q1
    obtain ⟨v2, w2⟩ := t2 q2
    have v1' := s2.pre.bef v1
    obtain ⟨s3, t3⟩ := and_ms s2.ok s2.good (bef_not s2.ok v1') (bef_not s2.ok v2)
    have s123 := s12.trans s3
    rw [q1, q2, Bool.true_and, Bool.true_and] at s123
    by_cases k : (s.2.2.and (notL r.1) (notL s.1)).2.1 = false
    · rw [if_pos k]
      exact ⟨s123.bool k, bef0 _, fun e => Bool.noConfusion e⟩
    · rw [if_neg k]
      have k1 : (s.2.2.and (notL r.1) (notL s.1)).2.1 = true := by cases h : (s.2.2.and (notL r.1) (notL s.1)).2.1 with | true => rfl | false => exact absurd h k
      obtain ⟨v3, w3⟩ := t3 k1
      refine ⟨s123.bool k1, bef_not s3.ok v3, fun _ x y => ?_⟩
      show Mak.lv _ x y (notL _) = _
      rw [lv_not s3.ok x y v3, w3, lv_not s2.ok x y v1', lv_not s2.ok x y v2, s2.pre.lv x y v1, w1, w2, s1.pre.lv x y hc, s1.pre.lv x y hd]
      cases M.lv x y a <;> cases M.lv x y b <;> cases M.lv x y c <;> cases M.lv x y d <;> rfl
end Go.Ab
