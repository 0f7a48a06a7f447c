/- The program, for the walks. -/
import Derived.Test.YtiecnmojbdogfaaFwR
import Derived.Test.YtiecnmojbdogfaaProg
set_option linter.unusedSimpArgs false
set_option linter.unusedVariables false
namespace Go.Ab
open Go
/-- A row that grew in one of two places. -/
def Acc2 (s1 s2 e sz n : Nat) (p : Nat → AV → Prop) (v : AV) (m : Mem) : Prop := (n = 0 ∧ v = .cap0) ∨ ∃ s ver g, (s = s1 ∨ s = s2) ∧ v = .sl s ver n ∧ m s = .row ver e sz n g ∧ ∀ i, i < n → p i (g i)
theorem Acc.two {s1 s2 e sz n : Nat} {p : Nat → AV → Prop} {v : AV} {m : Mem} (h : Acc s1 e sz n p v m) : Acc2 s1 s2 e sz n p v m := by
  rcases h with h | ⟨ver, g, h1, h2, h3⟩
  · exact .inl h
  · exact .inr ⟨_, ver, g, .inl rfl, h1, h2, h3⟩
theorem Acc.two' {s1 s2 e sz n : Nat} {p : Nat → AV → Prop} {v : AV} {m : Mem} (h : Acc s2 e sz n p v m) : Acc2 s1 s2 e sz n p v m := by
  rcases h with h | ⟨ver, g, h1, h2, h3⟩
  · exact .inl h
  · exact .inr ⟨_, ver, g, .inr rfl, h1, h2, h3⟩
theorem Acc2.keep {s1 s2 e sz n : Nat} {p : Nat → AV → Prop} {v : AV} {m m' : Mem} (h : Acc2 s1 s2 e sz n p v m) (h1 : m' s1 = m s1) (h2 : m' s2 = m s2) : Acc2 s1 s2 e sz n p v m' := by
  rcases h with h | ⟨s, ver, g, hs, h3, h4, h5⟩
  · exact .inl h
  · exact .inr ⟨s, ver, g, hs, h3, by rcases hs with rfl | rfl <;> simp only [h1, h2, h4], h5⟩
theorem Acc.keep {s e sz n : Nat} {p : Nat → AV → Prop} {v : AV} {m m' : Mem} (h : Acc s e sz n p v m) (h1 : m' s = m s) : Acc s e sz n p v m' := by
  rcases h with h | ⟨ver, g, h3, h4, h5⟩
  · exact .inl h
  · exact .inr ⟨ver, g, h3, by rw [h1, h4], h5⟩
/-- A row that is let go, or lent: what is read of it. -/
def Fro (n : Nat) (p : Nat → AV → Prop) (v : AV) : Prop := ∃ g, v = .fs n g ∧ ∀ i, i < n → p i (g i)
section
variable {P : Program} {s s1 s2 T sz n : Nat} {p : Nat → AV → Prop} {v : AV} {m : Mem} {f : Nat} {R : AV → Prop} {K : AV → Mem → Prop}
/-- A function that reads the row and gives a scalar. -/
theorem Acc2.call (h : Acc2 s1 s2 T sz n p v m) (hp : ∀ g, (∀ i, i < n → p i (g i)) → Pure P f [.fs n g] R) (hk : ∀ r, R r → isSc r = true ∧ K r m) : CallW P f [v] m K := by
  rcases h with ⟨rfl, rfl⟩ | ⟨s, ver, g, _, rfl, hm, hg⟩
  · exact CallW.sc (hp (fun _ => .undef) fun i hi => absurd hi (Nat.not_lt_zero _)) rfl ⟨trivial, trivial⟩ hk
  · refine CallW.sc (hp g hg) ?_ ?_ hk
    · simp only [rsC, rs2, rs1, rs0, hm]
    · simp only [rsC, rs2, rs1, rs0, hm, and_self]
theorem Acc.call (h : Acc s T sz n p v m) (hp : ∀ g, (∀ i, i < n → p i (g i)) → Pure P f [.fs n g] R) (hk : ∀ r, R r → isSc r = true ∧ K r m) : CallW P f [v] m K := (h.two (s2 := s)).call hp hk
end

/-- Data that is only read may be handed over as what is known of it. -/
def wkF (v : AV) : AV := bif isFzD v then wk v else v
theorem CallW.wkn {P : Program} {f : Nat} {args args0 : List AV} {mem : Mem} {K : AV → Mem → Prop} (h : CallW P f args0 mem K) (ha : args.map wkF = args0) : CallW P f args mem K := by
  subst ha
  refine ⟨h.1, fun X Y w0 w bl vs hw hs hv => h.2 X Y w0 w bl vs hw (by simpa using hs) fun j hj => ?_⟩
  have hj : j < args.length := by simpa using hj
  rw [getD_map _ _ hj]
  unfold wkF
  cases hz : isFzD (args.getD j .undef) with
  | false => exact hv j hj
  | true => exact .fz ((hv j hj).toFzD hz).wk
/-- The rest behind ways that part, once for all of them. -/
theorem with_rest {P : Program} {X : AC} {Q : AX → Env → Mem → Prop} {goal : Prop} (G : Env → Mem → Prop) (main : (∀ e m, G e m → awp P X Q e m) → goal) (rp : ∀ e m, G e m → awp P X Q e m) : goal := main rp
end Go.Ab
namespace Go.Ab
open Go
noncomputable abbrev PP : Program := Go.Proofs.Try.prog
theorem fmix : PP.follows .mixedOrders = true := by kernel_rfl
theorem cells_of_int {f : Nat → AV} {k : IntKind} {x : Nat → Int} {n : Nat} (h : ∀ i, i < n → f i = .int k (x i)) : ∀ i, i < n → (f i).cells.length = 1 ∧ (f i).cells.all AV.isCell = true := fun i hi => by rw [h i hi]; exact ⟨rfl, rfl⟩
theorem cells_of_bool {f : Nat → AV} {x : Nat → Bool} {n : Nat} (h : ∀ i, i < n → f i = .bool (x i)) : ∀ i, i < n → (f i).cells.length = 1 ∧ (f i).cells.all AV.isCell = true := fun i hi => by rw [h i hi]; exact ⟨rfl, rfl⟩
end Go.Ab
