/- Two graphs side by side: the plain law. -/
import Derived.Test.YtodncnlnadgkhabLwGraph
set_option linter.unusedSimpArgs false
set_option linter.unusedVariables false
namespace Go.Ab
open Go

open Classical in
/-- The first k < n with the name q; n if there is none. -/
noncomputable def fstI (x : Nat → ByteArray) (q : ByteArray) : Nat → Nat
  | 0 => 0
  | n + 1 => if fstI x q n < n then fstI x q n else if x n = q then n else n + 1
theorem fstI_of {x : Nat → ByteArray} {q : ByteArray} {i : Nat} (h : x i = q) (hf : ∀ j, j < i → x j ≠ q) : ∀ n, i < n → fstI x q n = i := by
  have low : ∀ n, n ≤ i → fstI x q n = n := fun n => by
    induction n with
    | zero => exact fun _ => rfl
    | succ n ih =>
      intro hn
      rw [fstI, ih (by omega), if_neg (by omega), if_neg (hf n (by omega))]
  intro n
  induction n with
  | zero => exact fun h => absurd h (Nat.not_lt_zero _)
  | succ n ih =>
    intro hn
    by_cases e : i = n
    · subst e
      rw [fstI, low i (Nat.le_refl _), if_neg (by omega), if_pos h]
    · rw [fstI, ih (by omega), if_pos (by omega)]
theorem fstI_none {x : Nat → ByteArray} {q : ByteArray} : ∀ n, (∀ j, j < n → x j ≠ q) → fstI x q n = n := fun n => by
  induction n with
  | zero => exact fun _ => rfl
  | succ n ih =>
    intro hn
    rw [fstI, ih (fun j hj => hn j (by omega)), if_neg (by omega), if_neg (hn n (by omega))]
theorem fstI_mem {x : Nat → ByteArray} {q : ByteArray} {n : Nat} (h : seenB x n q) : fstI x q n < n ∧ x (fstI x q n) = q := by
  induction n with
  | zero => obtain ⟨j, hj, _⟩ := h; exact absurd hj (Nat.not_lt_zero _)
  | succ n ih =>
    by_cases k : fstI x q n < n
    · have hk : seenB x n q := Classical.byContradiction fun hn => by
        rw [fstI_none n (fun j hj e => hn ⟨j, hj, e⟩)] at k; omega
      have := ih hk
      rw [fstI, if_pos k]
      exact ⟨by omega, this.2⟩
    · have hn : ∀ j, j < n → x j ≠ q := fun j hj e => k (ih ⟨j, hj, e⟩).1
      obtain ⟨j, hj, e⟩ := h
      obtain rfl : j = n := by
        by_cases q' : j < n
        · exact absurd e (hn j q')
        · omega
      rw [fstI, if_neg k, if_pos e]
      exact ⟨by omega, e⟩

/-- The names of a list. -/
def nmA (T : List ByteArray) (i : Nat) : ByteArray := T.getD i ⟨#[]⟩
theorem seen_nm {T : List ByteArray} {q : ByteArray} : seenB (nmA T) T.length q ↔ q ∈ T := by
  unfold seenB nmA
  constructor
  · rintro ⟨j, hj, rfl⟩
    rw [List.getD_eq_getElem?_getD, List.getElem?_eq_getElem hj]; exact List.getElem_mem hj
  · intro h
    obtain ⟨j, hj, e⟩ := List.mem_iff_getElem.1 h
    exact ⟨j, hj, by rw [List.getD_eq_getElem?_getD, List.getElem?_eq_getElem hj]; exact e⟩
theorem nm_app {T U : List ByteArray} {i : Nat} (h : i < T.length) : nmA (T ++ U) i = nmA T i := by
  unfold nmA
  rw [List.getD_eq_getElem?_getD, List.getD_eq_getElem?_getD, List.getElem?_append_left h]
theorem nm_new {T : List ByteArray} {q : ByteArray} : nmA (T ++ [q]) T.length = q := by
  unfold nmA
  rw [List.getD_eq_getElem?_getD, List.getElem?_append_right (Nat.le_refl _), Nat.sub_self]; rfl

/-- The inputs of G, and of H the first j that G has not. -/
def Gra.ins (G : Gra) : List ByteArray := (List.range G.ni).map G.inn
theorem ins_len (G : Gra) : G.ins.length = G.ni := by simp [Gra.ins]
theorem ins_at {G : Gra} {i : Nat} (h : i < G.ni) : nmA G.ins i = G.inn i := by
  unfold nmA Gra.ins
  rw [List.getD_eq_getElem?_getD, List.getElem?_map, List.getElem?_range h]; rfl
open Classical in
noncomputable def joinI (G H : Gra) : Nat → List ByteArray
  | 0 => G.ins
  | j + 1 => if H.inn j ∈ G.ins then joinI G H j else joinI G H j ++ [H.inn j]
noncomputable def joinT (G H : Gra) : List ByteArray := joinI G H H.ni
theorem joinI_pre (G H : Gra) : ∀ j, ∃ U, joinI G H j = G.ins ++ U := fun j => by
  induction j with
  | zero => exact ⟨[], by simp [joinI]⟩
  | succ j ih =>
    obtain ⟨U, e⟩ := ih
    rw [joinI]
    split
    · exact ⟨U, e⟩
    · exact ⟨U ++ [H.inn j], by rw [e, List.append_assoc]⟩
theorem joinI_len (G H : Gra) : ∀ j, G.ni ≤ (joinI G H j).length ∧ (joinI G H j).length ≤ G.ni + j := fun j => by
  induction j with
  | zero => rw [joinI, ins_len]; omega
  | succ j ih =>
    rw [joinI]
    split
    · omega
    · rw [List.length_append]; simp only [List.length_singleton]; omega
theorem joinI_at {G H : Gra} {j i : Nat} (h : i < G.ni) : nmA (joinI G H j) i = G.inn i := by
  obtain ⟨U, e⟩ := joinI_pre G H j
  rw [e, nm_app (by rw [ins_len]; exact h), ins_at h]
theorem mem_ins {G : Gra} {i : Nat} (h : i < G.ni) : G.inn i ∈ G.ins := by
  unfold Gra.ins; exact List.mem_map.2 ⟨i, List.mem_range.2 h, rfl⟩
theorem joinI_mem {G H : Gra} : ∀ j q, q ∈ joinI G H j ↔ q ∈ G.ins ∨ ∃ i, i < j ∧ H.inn i = q := fun j => by
  induction j with
  | zero => intro q; rw [joinI]; exact ⟨.inl, fun h => h.elim id fun ⟨i, hi, _⟩ => absurd hi (Nat.not_lt_zero _)⟩
  | succ j ih =>
    intro q
    rw [joinI]
    split
    · rename_i hm
      rw [ih]
      constructor
      · rintro (h | ⟨i, hi, e⟩)
        · exact .inl h
        · exact .inr ⟨i, by omega, e⟩
      · rintro (h | ⟨i, hi, e⟩)
        · exact .inl h
        · by_cases k : i < j
          · exact .inr ⟨i, k, e⟩
          · obtain rfl : i = j := by omega
            exact .inl (e ▸ hm)
    · rw [List.mem_append, ih]
      constructor
      · rintro ((h | ⟨i, hi, e⟩) | h)
        · exact .inl h
        · exact .inr ⟨i, by omega, e⟩
        · exact .inr ⟨j, by omega, (List.mem_singleton.1 h).symm⟩
      · rintro (h | ⟨i, hi, e⟩)
        · exact .inl (.inl h)
        · by_cases k : i < j
          · exact .inl (.inr ⟨i, k, e⟩)
          · obtain rfl : i = j := by omega
            exact .inr (List.mem_singleton.2 e.symm)
theorem inn_ne {G : Gra} (h : graphF G = 0) {i j : Nat} (hij : i < j) (hj : j < G.ni) : G.inn i ≠ G.inn j := by
  have hn : namesF G.names (G.ni + G.nr) = 0 := by
    unfold graphF at h
    split at h
    · cases h
    · split at h
      · cases h
      · split at h
        · rename_i h3; exact absurd h h3
        · rename_i h3; exact Classical.not_not.1 h3
  have := scan_zero hn j (by omega)
  intro e
  unfold nameAt at this
  split at this
  · split at this
    · cases this
    · rename_i hs
      exact hs ⟨i, hij, by unfold Gra.names; rw [if_pos (by omega), if_pos hj]; exact e⟩
  · cases this
/-- In front of H's name j, the list holds it only if G does. -/
theorem joinI_cond {G H : Gra} (h : graphF H = 0) {j : Nat} (hj : j < H.ni) : H.inn j ∈ joinI G H j ↔ H.inn j ∈ G.ins := by
  rw [joinI_mem]
  exact ⟨fun k => k.elim id fun ⟨i, hi, e⟩ => absurd e (inn_ne h hi hj), .inl⟩

/-- Where node i of g goes: r registers and x ands lie in front of g's, c registers there are. -/
noncomputable def jN (T : List ByteArray) (c : Nat) (g : Gra) (r x i : Nat) : Nat :=
  if 1 + g.ni + g.nr ≤ i then 1 + T.length + c + x + (i - 1 - g.ni - g.nr) else if 1 + g.ni ≤ i then 1 + T.length + r + (i - 1 - g.ni) else if 0 < i then 1 + fstI (nmA T) (g.inn (i - 1)) T.length else 0
/-- A literal of a node that goes where f says. -/
def jL (f : Nat → Nat) (l : Int) : Int := 2 * (f (l / 2).toNat : Nat) + l % 2
noncomputable def toG (G H : Gra) : Nat → Nat := jN (joinT G H) (G.nr + H.nr) G 0 0
noncomputable def toH (G H : Gra) : Nat → Nat := jN (joinT G H) (G.nr + H.nr) H G.nr G.na
noncomputable def joinG (G H : Gra) : Gra where
  ni := (joinT G H).length
  inn := nmA (joinT G H)
  no := G.no + H.no
  out := fun i => if i < G.no then G.out i else H.out (i - G.no)
  nr := G.nr + H.nr
  reg := fun i => if i < G.nr then ⟨(G.reg i).name, jL (toG G H) (G.reg i).next, (G.reg i).init⟩ else ⟨(H.reg (i - G.nr)).name, jL (toH G H) (H.reg (i - G.nr)).next, (H.reg (i - G.nr)).init⟩
  na := G.na + H.na
  A := fun i => if i < G.na then jL (toG G H) (G.A i) else jL (toH G H) (H.A (i - G.na))
  B := fun i => if i < G.na then jL (toG G H) (G.B i) else jL (toH G H) (H.B (i - G.na))
  nk := G.nk + H.nk
  outs := fun i => if i < G.nk then jL (toG G H) (G.outs i) else jL (toH G H) (H.outs (i - G.nk))
noncomputable def joinF (G H : Gra) : Int := if graphF G ≠ 0 then graphF G else if graphF H ≠ 0 then graphF H else graphF (joinG G H)

theorem joinT_len (G H : Gra) : G.ni ≤ (joinT G H).length ∧ (joinT G H).length ≤ G.ni + H.ni := joinI_len G H H.ni
theorem fst_le {x : Nat → ByteArray} {q : ByteArray} : ∀ n, fstI x q n ≤ n := fun n => by
  induction n with
  | zero => exact Nat.le_refl _
  | succ n ih => rw [fstI]; split; omega; split <;> omega
theorem jN_le {T : List ByteArray} {c : Nat} {g : Gra} {r x i : Nat} (gd : g.Good) (hT : T.length ≤ 256) (hc : c ≤ 576) (hr : r ≤ 288) (hx : x ≤ 4000) (hi : i ≤ g.nodes) : jN T c g r x i ≤ 100000 := by
  have := gd.ni; have := gd.nr; have := gd.na
  have : g.nodes = 1 + g.ni + g.nr + g.na := rfl
  have := fst_le (x := nmA T) (q := g.inn (i - 1)) T.length
  unfold jN
  split
  · omega
  · split
    · omega
    · split <;> omega
theorem fst_G {G H : Gra} (h : graphF G = 0) {i : Nat} (hi : i < G.ni) : fstI (nmA (joinT G H)) (G.inn i) (joinT G H).length = i :=
  fstI_of (joinI_at hi) (fun j hj => by show nmA (joinI G H H.ni) j ≠ _; rw [joinI_at (by omega)]; exact inn_ne h hj hi) _ (by have := joinT_len G H; omega)
theorem fst_H {G H : Gra} {i : Nat} (hi : i < H.ni) : fstI (nmA (joinT G H)) (H.inn i) (joinT G H).length < (joinT G H).length :=
  (fstI_mem (seen_nm.2 ((joinI_mem _ _).2 (.inr ⟨i, hi, rfl⟩)))).1
theorem toG_old {G H : Gra} (h : graphF G = 0) (i : Nat) : toG G H i = (if (joinT G H).length + G.nr < (if G.ni < i then i + ((joinT G H).length - G.ni) else i) then (if G.ni < i then i + ((joinT G H).length - G.ni) else i) + H.nr else if G.ni < i then i + ((joinT G H).length - G.ni) else i) := by
  have hl := joinT_len G H
  unfold toG jN
  by_cases h1 : 1 + G.ni + G.nr ≤ i
  · rw [if_pos h1, if_pos (show G.ni < i by omega), if_pos (by omega)]; omega
  · rw [if_neg h1]
    by_cases h2 : 1 + G.ni ≤ i
    · rw [if_pos h2, if_pos (show G.ni < i by omega), if_neg (by omega)]; omega
    · rw [if_neg h2, if_neg (show ¬ G.ni < i by omega), if_neg (show ¬ (joinT G H).length + G.nr < i by omega)]
      by_cases h3 : 0 < i
      · rw [if_pos h3, fst_G h (by omega)]; omega
      · rw [if_neg h3]; omega
theorem joinG_ok {G H : Gra} (hG : graphF G = 0) (hH : graphF H = 0) (ok : G.Ok) (kk : H.Ok) : (joinG G H).Ok := by
  have gd := good_of hG; have gh := good_of hH
  have hl := joinT_len G H
  have b1 := gd.ni; have b2 := gh.ni; have b3 := gd.nr; have b4 := gh.nr; have b5 := gd.na; have b6 := gh.na; have b7 := gd.no; have b8 := gh.no; have b9 := gd.nk; have b10 := gh.nk
  have lG : ∀ l, litOk G.nodes l → L64 (jL (toG G H) l) := fun l ⟨h1, h2⟩ => by
    have := jN_le (T := joinT G H) (c := G.nr + H.nr) (r := 0) (x := 0) (i := (l / 2).toNat) gd (by omega) (by omega) (by omega) (by omega) (by omega)
    unfold jL toG L64; omega
  have lH : ∀ l, litOk H.nodes l → L64 (jL (toH G H) l) := fun l ⟨h1, h2⟩ => by
    have := jN_le (T := joinT G H) (c := G.nr + H.nr) (r := G.nr) (x := G.na) (i := (l / 2).toNat) gh (by omega) (by omega) (by omega) (by omega) (by omega)
    unfold jL toH L64; omega
  have up : ∀ {g : Gra} {i : Nat} {l : Int}, i < g.na → litOk (g.base + i) l → litOk g.nodes l := fun {g i l} hi h => ⟨h.1, by have := h.2; have : g.nodes = g.base + g.na := rfl; omega⟩
  refine ⟨by show (joinT G H).length ≤ _; omega, by show G.no + H.no ≤ _; omega, by show G.nr + H.nr ≤ _; omega, by show G.na + H.na ≤ _; omega, by show G.nk + H.nk ≤ _; omega, fun i hi => ?_, fun i hi => ?_, fun i hi => ?_, fun i hi => ?_, fun i hi => ?_, fun i hi => ?_⟩
  · have hm : nmA (joinT G H) i ∈ joinT G H := seen_nm.1 ⟨i, hi, rfl⟩
    show (nmA (joinT G H) i).size ≤ _
    rcases (joinI_mem _ _).1 hm with h | ⟨j, hj, e⟩
    · obtain ⟨j, hj, e⟩ := List.mem_map.1 h
      rw [← e]; exact ok.inn j (List.mem_range.1 hj)
    · rw [← e]; exact kk.inn j hj
  · have hi : i < G.no + H.no := hi
    show (if i < G.no then G.out i else H.out (i - G.no)).size ≤ _
    split
    · rename_i h; exact ok.out i h
    · exact kk.out _ (by omega)
  · have hi : i < G.nr + H.nr := hi
    show (if i < G.nr then (⟨(G.reg i).name, jL (toG G H) (G.reg i).next, (G.reg i).init⟩ : RegV) else ⟨(H.reg (i - G.nr)).name, jL (toH G H) (H.reg (i - G.nr)).next, (H.reg (i - G.nr)).init⟩).name.size ≤ _ ∧ L64 (if i < G.nr then (⟨(G.reg i).name, jL (toG G H) (G.reg i).next, (G.reg i).init⟩ : RegV) else ⟨(H.reg (i - G.nr)).name, jL (toH G H) (H.reg (i - G.nr)).next, (H.reg (i - G.nr)).init⟩).next
    split
    · rename_i h; exact ⟨(ok.reg i h).1, lG _ (gd.next i h)⟩
    · exact ⟨(kk.reg _ (by omega)).1, lH _ (gh.next _ (by omega))⟩
  · have hi : i < G.na + H.na := hi
    show L64 (if i < G.na then jL (toG G H) (G.A i) else jL (toH G H) (H.A (i - G.na)))
    split
    · rename_i h; exact lG _ (up h (gd.A i h))
    · exact lH _ (up (show i - G.na < H.na by omega) (gh.A _ (by omega)))
  · have hi : i < G.na + H.na := hi
    show L64 (if i < G.na then jL (toG G H) (G.B i) else jL (toH G H) (H.B (i - G.na)))
    split
    · rename_i h; exact lG _ (up h (gd.B i h))
    · exact lH _ (up (show i - G.na < H.na by omega) (gh.B _ (by omega)))
  · have hi : i < G.nk + H.nk := hi
    show L64 (if i < G.nk then jL (toG G H) (G.outs i) else jL (toH G H) (H.outs (i - G.nk)))
    split
    · rename_i h; exact lG _ (gd.outs i h)
    · exact lH _ (gh.outs _ (by omega))
end Go.Ab
