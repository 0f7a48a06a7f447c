/- A netlist as a graph, plainly. -/
import Derived.Test.YtodncnlnadgkhaaLwCone
import Derived.Test.YtodncnlnadgkhaaSaTab
set_option linter.unusedSimpArgs false
set_option linter.unusedVariables false
namespace Go.Ab
open Go
/-- G shows what N shows. -/
structure SameV (N : Net) (G : Gra) : Prop where
  ni : G.ni = N.ni
  inn : ∀ i, i < N.ni → G.inn i = N.inn i
  no : G.no = N.no
  out : ∀ i, i < N.no → G.out i = N.out i
  nr : G.nr = N.nf
  reg : ∀ i, i < N.nf → (G.reg i).name = (N.flop i).name ∧ (G.reg i).init = (N.flop i).init
  nk : G.nk = N.nk
  outs : ∀ x y k, k < N.nk → litB G x y (G.outs k) = bv N x y N.ng (N.outs k).toNat
  next : ∀ x y i, i < N.nf → litB G x y (G.reg i).next = nextB N (bv N x y N.ng) i
theorem SameV.clean {N : Net} {G : Gra} (h : SameV N G) (hF : graphF G = 0) {b : Nat → Bool} (hk : KeepOk G b) : SameV N (cleanG G b) := by
  have g := good_of hF
  exact ⟨h.ni, h.inn, h.no, h.out, h.nr, h.reg, h.nk, fun x y k hk' => by rw [clean_out g hk x y (by rw [h.nk]; exact hk'), h.outs x y k hk'], fun x y i hi => by rw [clean_next g hk x y (by rw [h.nr]; exact hi), h.next x y i hi]⟩
def rgN (N : Net) (i : Nat) : RegV := ⟨(N.flop i).name, 0, (N.flop i).init⟩
/-- The graph that is made. -/
def gN (N : Net) (M : Mak) (o nx : Nat → Int) : Gra := ⟨M.ni, N.inn, N.no, N.out, M.nr, fun i => ⟨(N.flop i).name, nx i, (N.flop i).init⟩, M.n, M.A, M.B, N.nk, o⟩
theorem formF_names {N : Net} (h : formF N = 0) : namesF N.names (N.ni + N.nf) = 0 ∧ namesF N.out N.no = 0 := by
  unfold formF at h
  split at h
  · cases h
  · split at h
    · cases h
    · split at h
      · rename_i h3; exact absurd h h3
      · rename_i h3
        split at h
        · rename_i h4; exact absurd h h4
        · rename_i h4
          exact ⟨Classical.not_not.1 h3, Classical.not_not.1 h4⟩
theorem gN_lit (N : Net) (M : Mak) (o nx : Nat → Int) (x y : Nat → Bool) (l : Int) : litB (gN N M o nx) x y l = M.lv x y l := by
  unfold litB Mak.lv ofB nodeB Mak.nv
  rw [gb_congr (G := gN N M o nx) (H := M.gr) rfl rfl x y _ (fun k _ => ⟨rfl, rfl⟩)]
  rfl
theorem gN_same {N : Net} {M : Mak} {o nx : Nat → Int} (h : formF N = 0) (ok : M.Ok) (hg : M.Good) (e1 : M.ni = N.ni) (e2 : M.nr = N.nf) (ho : ∀ k, k < N.nk → M.bef (o k) ∧ ∀ x y, M.lv x y (o k) = bv N x y N.ng (N.outs k).toNat) (hx : ∀ i, i < N.nf → M.bef (nx i) ∧ ∀ x y, M.lv x y (nx i) = nextB N (bv N x y N.ng) i) : graphF (gN N M o nx) = 0 ∧ SameV N (gN N M o nx) := by
  have g := Net.good h
  obtain ⟨h1, h2⟩ := formF_names h
  refine ⟨graphF_good ⟨by show M.ni ≤ 128; rw [e1]; exact g.ni, g.no, by show M.nr ≤ 288; rw [e2]; exact g.nf, ok.n, g.nk, fun i hi => (hg i hi).1, fun i hi => (hg i hi).2, fun i hi => (hx i (e2 ▸ hi)).1, fun i hi => (ho i hi).1⟩ ?_ h2, ⟨e1, fun _ _ => rfl, rfl, fun _ _ => rfl, e2, fun _ _ => ⟨rfl, rfl⟩, rfl, fun x y k hk => ?_, fun x y i hi => ?_⟩⟩
  · have : (gN N M o nx).names = N.names := by
      funext i
      show (if i < M.ni then N.inn i else (N.flop (i - M.ni)).name) = (if i < N.ni then N.inn i else (N.flop (i - N.ni)).name)
      rw [e1]
    rw [this]
    show namesF N.names (M.ni + M.nr) = 0
    rw [e1, e2]; exact h1
  · rw [gN_lit]; exact (ho k hk).2 x y
  · rw [gN_lit]; exact (hx i hi).2 x y
/-- The literals of the nets in front of gate i. -/
structure Lits (N : Net) (M : Mak) (l : Nat → Int) (i : Nat) (b : Bool) : Prop where
  bef : ∀ k, k < N.first + i → M.bef (l k)
  val : b = true → ∀ x y k, k < N.first + i → M.lv x y (l k) = bv N x y i k
def budN (N : Net) : Nat → Nat
  | 0 => 0
  | i + 1 => budN N i + tc (N.gate i).n
theorem tc_val : ∀ n, tc n = 3 * (2 ^ n - 1)
  | 0 => rfl
  | n + 1 => by have := tc_val n; have := Nat.one_le_two_pow (n := n); simp only [tc]; rw [Nat.pow_succ]; omega
theorem bv_far (N : Net) (x y : Nat → Bool) : ∀ (n i k : Nat), i ≤ n → k < N.first + i → bv N x y n k = bv N x y i k
  | 0, i, k, h, hk => by obtain rfl : i = 0 := by omega
                         rfl
  | n + 1, i, k, h, hk => by
    by_cases e : i = n + 1
    · rw [e]
    · simp only [bv]
      rw [if_neg (by omega)]
      exact bv_far N x y n i k (by omega) hk
theorem Lits.step {N : Net} {M M' : Mak} {l : Nat → Int} {i c : Nat} {b d : Bool} {r : Int} (h : Lits N M l i b) (g : N.Good) (ok : N.Ok) (hi : i < N.ng) (s : MS M M' c d) (hr : M'.bef r) (hv : d = true → ∀ x y, M'.lv x y r = bit (N.gate i).table (rowB (fun j => M.lv x y (l ((N.gate i).ins j).toNat)) (N.gate i).n)) :
    Lits N M' (fun k => if k < N.first + i then l k else r) (i + 1) (b && d) := by
  obtain ⟨g1, _, g3⟩ := g.ins i hi
  refine ⟨fun k hk => ?_, fun e x y k hk => ?_⟩
  · show M'.bef (if k < N.first + i then l k else r)
    split
    · exact s.pre.bef (h.bef k (by assumption))
    · exact hr
  · have hb : b = true := by cases b with | true => rfl | false => exact Bool.noConfusion e
    subst hb
    have hd : d = true := e
    show M'.lv x y (if k < N.first + i then l k else r) = bv N x y (i + 1) k
    by_cases hk' : k < N.first + i
    · rw [if_pos hk', s.pre.lv x y (h.bef k hk'), h.val rfl x y k hk', bv_far N x y (i + 1) i k (by omega) hk']
    · obtain rfl : k = N.first + i := by omega
      rw [if_neg hk', hv hd x y]
      simp only [bv, if_true]
      have hp : rowB (fun j => bv N x y i ((N.gate i).ins j).toNat) (N.gate i).n < 64 := Nat.lt_of_lt_of_le (rowB_lt _ _) (p_le _ (by omega))
      rw [tabB_bit (ok.gate i hi).2.2.1 hp, rowB_congr _ fun j hj => h.val rfl x y _ (by have := g3 j hj; omega)]
theorem two_up {N : Net} {k : Nat} (hk : k < N.first + 0) : k = 0 ∨ k = 1 ∨ ∃ i, i < N.ni + N.nf ∧ k = 2 + i := by
  have hf : N.first = 2 + N.ni + N.nf := rfl
  by_cases h0 : k = 0
  · exact .inl h0
  · by_cases h1 : k = 1
    · exact .inr (.inl h1)
    · exact .inr (.inr ⟨k - 2, by omega, by omega⟩)
theorem lits0 (N : Net) {l : Nat → Int} (h0 : l 0 = 0) (h1 : l 1 = 1) (h2 : ∀ i, i < N.ni + N.nf → l (2 + i) = 2 * ((1 + i : Nat) : Int)) : Lits N (newM N.ni N.nf) l 0 true := by
  have hb : (newM N.ni N.nf).nodes = 1 + N.ni + N.nf := rfl
  have hf : N.first = 2 + N.ni + N.nf := rfl
  refine ⟨fun k hk => ?_, fun _ x y k hk => ?_⟩
  · rcases two_up hk with rfl | rfl | ⟨i, hi, rfl⟩
    · rw [h0]; exact bef0 _
    · rw [h1]; exact bef1 _
    · rw [h2 i hi]; exact ⟨by omega, by omega⟩
  · rcases two_up hk with rfl | rfl | ⟨i, hi, rfl⟩
    · rw [h0, lv_zero]; rfl
    · rw [h1, lv_one]; rfl
    · rw [h2 i hi, lv_node, nv_base x y (show 1 + i < 1 + N.ni + N.nf by omega)]
      show bBaseG N.ni x y (1 + i) = bBase N.ni x y (2 + i)
      by_cases e : i < N.ni
      · unfold bBaseG bBase
        simp only [show ¬ 1 + i = 0 by omega, show ¬ 2 + i = 0 by omega, show ¬ 2 + i = 1 by omega, show 1 + i < 1 + N.ni by omega, show 2 + i < 2 + N.ni by omega, if_true, if_false, show 1 + i - 1 = i by omega, show 2 + i - 2 = i by omega]
      · unfold bBaseG bBase
        simp only [show ¬ 1 + i = 0 by omega, show ¬ 2 + i = 0 by omega, show ¬ 2 + i = 1 by omega, show ¬ 1 + i < 1 + N.ni by omega, show ¬ 2 + i < 2 + N.ni by omega, if_true, if_false, show 1 + i - 1 = i by omega, show 2 + i - 2 = i by omega]
/-- What a flip-flop takes. -/
theorem mux_ms {N : Net} {M : Mak} {l : Nat → Int} {b : Bool} (g : N.Good) (ok : M.Ok) (hg : M.Good) (e1 : M.ni = N.ni) (e2 : M.nr = N.nf) (h : Lits N M l N.ng b) {i : Nat} (hi : i < N.nf) :
    ∃ d, MS M (M.muxF (l (N.flop i).en.toNat) (l (N.flop i).d.toNat) (2 * (1 + M.ni + (i : Int)))).2 3 d ∧ (M.muxF (l (N.flop i).en.toNat) (l (N.flop i).d.toNat) (2 * (1 + M.ni + (i : Int)))).2.bef (M.muxF (l (N.flop i).en.toNat) (l (N.flop i).d.toNat) (2 * (1 + M.ni + (i : Int)))).1 ∧
      (b = true → d = true → ∀ x y, (M.muxF (l (N.flop i).en.toNat) (l (N.flop i).d.toNat) (2 * (1 + M.ni + (i : Int)))).2.lv x y (M.muxF (l (N.flop i).en.toNat) (l (N.flop i).d.toNat) (2 * (1 + M.ni + (i : Int)))).1 = nextB N (bv N x y N.ng) i) := by
  obtain ⟨⟨d1, d2⟩, d3, d4⟩ := g.flops i hi
  have hn : N.nets = N.first + N.ng := rfl
  have hf : N.first = 2 + N.ni + N.nf := rfl
  have q1 := h.bef (N.flop i).en.toNat (by omega)
  have q2 := h.bef (N.flop i).d.toNat (by omega)
  have hr : (2 * (1 + M.ni + (i : Int))) = 2 * ((1 + M.ni + i : Nat) : Int) := by omega
  have hnd : M.nodes = 1 + M.ni + M.nr + M.n := rfl
  have q3 : M.bef (2 * (1 + M.ni + (i : Int))) := by rw [hr]; exact ⟨by omega, by omega⟩
  have e : M.muxF (l (N.flop i).en.toNat) (l (N.flop i).d.toNat) (2 * (1 + M.ni + (i : Int))) = ((M.pair (l (N.flop i).en.toNat) (l (N.flop i).d.toNat) (notL (l (N.flop i).en.toNat)) (2 * (1 + M.ni + (i : Int)))).1, (M.pair (l (N.flop i).en.toNat) (l (N.flop i).d.toNat) (notL (l (N.flop i).en.toNat)) (2 * (1 + M.ni + (i : Int)))).2.2) := if_pos ⟨q1, q2, q3⟩
  obtain ⟨s, t, w⟩ := pair_ms ok hg q1 q2 (bef_not ok q1) q3
  rw [e]
  refine ⟨_, s, t, fun hb hd x y => ?_⟩
  show Mak.lv _ x y _ = _
  rw [w hd x y, lv_not ok x y q1, h.val hb x y _ (by omega), h.val hb x y _ (by omega), hr, lv_node, nv_base x y (by show _ < 1 + M.ni + M.nr; omega)]
  unfold nextB
  have hy : bv N x y N.ng (2 + N.ni + i) = y i := by
    rw [bv_far N x y N.ng 0 _ (by omega) (by omega)]
    show bBase N.ni x y (2 + N.ni + i) = y i
    unfold bBase
    rw [if_neg (by omega), if_neg (by omega), if_neg (by omega), show 2 + N.ni + i - 2 - N.ni = i by omega]
  have hz : bBaseG M.ni x y (1 + M.ni + i) = y i := by
    unfold bBaseG
    rw [if_neg (by omega), if_neg (by omega), show 1 + M.ni + i - 1 - M.ni = i by omega]
  rw [hy, hz]
  cases bv N x y N.ng (N.flop i).en.toNat <;> simp
end Go.Ab
