/- From a contract of a function by itself to a call in whatever state. -/
import Derived.Test.YtiecnmojbdogfaaFwN
set_option linter.unusedSimpArgs false
set_option linter.unusedVariables false
namespace Go.Ab
open Go

/-- Nothing of the call's own. -/
def mem0 : Mem := fun _ => .dead 0

/-- A function by itself, handed data that is only read. -/
def Pure (P : Program) (f : Nat) (args : List AV) (R : AV → Prop) : Prop := CallW P f args mem0 fun r _ => R r

def isFz1 : AV → Bool
  | .agg cs => cs.all isFz0
  | v => isFz0 v
/-- Data that is only read, through and through. -/
def isFzD : AV → Bool
  | .agg cs => cs.all isFz0
  | .tup cs => cs.all isFz1
  | .fn _ cs => cs.all isFz0
  | v => isFz0 v

def isSc0 : AV → Bool
  | .int _ _ | .bool _ | .str _ | .nilp | .nilf | .cap0 => true
  | _ => false
def isSc1 : AV → Bool
  | .agg cs => cs.all isSc0
  | v => isSc0 v
/-- No memory behind it. -/
def isSc : AV → Bool
  | .agg cs => cs.all isSc0
  | .tup cs => cs.all isSc1
  | v => isSc0 v

/-- A slice without room, known by its length alone. -/
def wk0 : AV → AV
  | .cap0 => .fs 0 fun _ => .undef
  | v => v
def wk1 : AV → AV
  | .agg cs => .agg (cs.map wk0)
  | v => wk0 v
def wk : AV → AV
  | .agg cs => .agg (cs.map wk0)
  | .tup cs => .tup (cs.map wk1)
  | .fn f cs => .fn f (cs.map wk0)
  | v => wk0 v

section
variable {P : Program} {X Y : Nat → Prop} {w0 w w' : World} {F F' : Nat → Prop} {bl bl' : Nat → Loc} {mem mem' : Mem}

theorem all_getD {p : AV → Bool} {cs : List AV} (h : cs.all p = true) {j : Nat} (hj : j < cs.length) : p (cs.getD j .undef) = true := by
  rw [List.getD_eq_getElem?_getD, List.getElem?_eq_getElem hj, Option.getD_some]
  exact List.all_eq_true.1 h _ (List.getElem_mem hj)

theorem getD_map (g : AV → AV) (cs : List AV) {j : Nat} (hj : j < cs.length) : (cs.map g).getD j .undef = g (cs.getD j .undef) := by
  simp [List.getD_eq_getElem?_getD, hj]
theorem FV.wk0 {u : Value} {v : AV} (h : FV w F u v) : FV w F u (wk0 v) := by
  cases h with
  | cap0 => exact .fs0 _ _ _
  | _ => constructor <;> assumption
theorem FV.wk1 {u : Value} {v : AV} (h : FV w F u v) : FV w F u (wk1 v) := by
  cases h with
  | agg vs cs hl hr => exact .agg vs _ (by simpa using hl) fun j hj => getD_map Go.Ab.wk0 cs (by simpa using hj) ▸ (hr j (by simpa using hj)).wk0
  | cap0 => exact .fs0 _ _ _
  | _ => constructor <;> assumption
theorem FV.wk {u : Value} {v : AV} (h : FV w F u v) : FV w F u (wk v) := by
  cases h with
  | agg vs cs hl hr => exact .agg vs _ (by simpa using hl) fun j hj => getD_map Go.Ab.wk0 cs (by simpa using hj) ▸ (hr j (by simpa using hj)).wk0
  | tup vs cs hl hr => exact .tup vs _ (by simpa using hl) fun j hj => getD_map Go.Ab.wk1 cs (by simpa using hj) ▸ (hr j (by simpa using hj)).wk1
  | fn f vs cs hl hr => exact .fn f vs _ (by simpa using hl) fun j hj => getD_map Go.Ab.wk0 cs (by simpa using hj) ▸ (hr j (by simpa using hj)).wk0
  | cap0 => exact .fs0 _ _ _
  | _ => constructor <;> assumption

theorem VV.toFz1 {u : Value} {a : AV} (h : VV w F bl mem u a) (hf : isFz1 a = true) : FV w F u a := by
  cases a with
  | agg cs =>
    obtain ⟨vs, rfl, hl, hr⟩ := h.agg_inv
    exact .agg vs cs hl fun j hj => (hr j hj).toFz (all_getD hf hj)
  | _ => exact h.toFz hf

theorem VV.toFzD {u : Value} {a : AV} (h : VV w F bl mem u a) (hf : isFzD a = true) : FV w F u a := by
  cases a with
  | agg cs =>
    obtain ⟨vs, rfl, hl, hr⟩ := h.agg_inv
    exact .agg vs cs hl fun j hj => (hr j hj).toFz (all_getD hf hj)
  | tup cs =>
    obtain ⟨vs, rfl, hl, hr⟩ := h.tup_inv
    exact .tup vs cs hl fun j hj => (hr j hj).toFz1 (all_getD hf hj)
  | fn f cs =>
    obtain ⟨vs, rfl, hl, hr⟩ := h.fn_inv
    exact .fn f vs cs hl fun j hj => (hr j hj).toFz (all_getD hf hj)
  | _ => exact h.toFz hf

theorem VV.sc0 {u : Value} {a : AV} (h : VV w F bl mem u a) (hf : isSc0 a = true) : FV w' F' u a := by
  cases h with
  | fz h => cases h <;> first | (simp [isSc0] at hf; done) | constructor
  | _ => simp [isSc0] at hf
theorem VV.sc1 {u : Value} {a : AV} (h : VV w F bl mem u a) (hf : isSc1 a = true) : FV w' F' u a := by
  cases a with
  | agg cs =>
    obtain ⟨vs, rfl, hl, hr⟩ := h.agg_inv
    exact .agg vs cs hl fun j hj => (hr j hj).sc0 (all_getD hf hj)
  | _ => exact h.sc0 hf
theorem VV.sc {u : Value} {a : AV} (h : VV w F bl mem u a) (hf : isSc a = true) : FV w' F' u a := by
  cases a with
  | agg cs =>
    obtain ⟨vs, rfl, hl, hr⟩ := h.agg_inv
    exact .agg vs cs hl fun j hj => (hr j hj).sc0 (all_getD hf hj)
  | tup cs =>
    obtain ⟨vs, rfl, hl, hr⟩ := h.tup_inv
    exact .tup vs cs hl fun j hj => (hr j hj).sc1 (all_getD hf hj)
  | _ => exact h.sc0 hf

/-! ### what the call owns, looked at as data that is only read -/
def rs0 (mem : Mem) : AV → Prop × AV
  | .sl id ver n => match mem id with
    | .row ver' _ _ _ f => (ver = ver', .fs n f)
    | _ => (True, .undef)
  | v => bif isFz0 v then (True, wk0 v) else (True, .undef)
def rsC (g : AV → Prop × AV) : List AV → Prop × List AV
  | [] => (True, [])
  | c :: cs => ((g c).1 ∧ (rsC g cs).1, (g c).2 :: (rsC g cs).2)
def rs1 (mem : Mem) : AV → Prop × AV
  | .ptr id ver off => match mem id with
    | .var ver' cs => (ver = ver' ∧ (rsC (rs0 mem) (cs.drop off)).1, .fp (rsC (rs0 mem) (cs.drop off)).2)
    | _ => (True, .undef)
  | v => rs0 mem v
def rs2 (mem : Mem) : AV → Prop × AV
  | .agg cs => ((rsC (rs0 mem) cs).1, .agg (rsC (rs0 mem) cs).2)
  | .fn f cs => ((rsC (rs1 mem) cs).1, .fn f (rsC (rs1 mem) cs).2)
  | v => rs1 mem v

theorem rsC_length (g : AV → Prop × AV) : ∀ cs : List AV, (rsC g cs).2.length = cs.length
  | [] => rfl
  | c :: cs => by simp [rsC, rsC_length g cs]

theorem rsC_at {g : AV → Prop × AV} : ∀ {cs : List AV} (h : (rsC g cs).1) (j : Nat), j < cs.length → (g (cs.getD j .undef)).1 ∧ (rsC g cs).2.getD j .undef = (g (cs.getD j .undef)).2
  | c :: cs, h, 0, _ => ⟨h.1, rfl⟩
  | c :: cs, h, j + 1, hj => by simpa [rsC] using rsC_at h.2 j (by simpa using hj)

/-- All blocks that may be looked at, one's own among them. -/
def Fr2 (X : Nat → Prop) (w : World) (b : Nat) : Prop := b < w.heap.size ∧ ¬ X b

theorem rs0_sound (hw : WS X Y w0 w bl mem) {u : Value} {a : AV} (h : VV w (Fr X w bl mem) bl mem u a) (hc : (rs0 mem a).1) : FV w (Fr2 X w) u (rs0 mem a).2 := by
  have hF : ∀ b, Fr X w bl mem b → Fr2 X w b ∧ w.heap[b]? = w.heap[b]? := fun b hb => ⟨⟨hb.1, hb.2.1⟩, rfl⟩
  cases a with
  | sl id ver n =>
    simp only [rs0] at hc ⊢
    split at hc
    · rename_i ver' e sz m f hm
      simp only at hc
      subst hc
      obtain ⟨_, _, _, _, hinv⟩ := h.sl_inv
      obtain ⟨hle, hu⟩ := hinv _ _ _ _ hm
      rw [hu]
      have hob := hw.obj id
      rw [hm] at hob
      obtain ⟨hz, xs, hown, hr⟩ := hob
      cases hloc : bl id with
      | none =>
        rw [hloc] at hown
        have hn0 : m = 0 := by
          rcases hown.2 with ⟨_, g⟩ | ⟨_, _, _, hv', _⟩
          · exact g
          · simp [slv] at hv'
        obtain rfl : n = 0 := by omega
        exact .fs0 _ _ _
      | blk b c =>
        rw [hloc] at hown
        have hmc : m ≤ c := by
          rcases hown.2 with ⟨hv', _⟩ | ⟨_, _, _, hv', _, _, g, _⟩
          · simp [slv] at hv'
          · simp [slv] at hv'; omega
        have hbo := hw.own id b c (by rw [hm]; rfl) hloc
        rcases Nat.eq_zero_or_pos n with h0 | h0
        · subst h0; exact .fs0 _ _ _
        · refine .fs ⟨b, 0, none⟩ n c sz f (fun i j => xs.getD (i * sz + j) undef) ⟨hbo.2.2, hbo.1⟩ (by omega) hz (fun i hi => (hr i (by omega)).1) (fun i j hi hj => ?_) (fun i j hi hj => ((hr i (by omega)).2 j hj).mono hF)
          have hlt : i * sz + j < xs.length := by rw [hown.1]; have := cells_le (n := 1) (show i < m by omega) (show j + 1 ≤ sz by omega); omega
          exact hown.cells (g := b) rfl _ _ (by simp [List.getD_eq_getElem?_getD, hlt])
    · exact .undef _
  | _ => first | exact ((h.toFz rfl).wk0).mono hF | exact .undef _

theorem rs1_sound (hw : WS X Y w0 w bl mem) {u : Value} {a : AV} (h : VV w (Fr X w bl mem) bl mem u a) (hc : (rs1 mem a).1) : FV w (Fr2 X w) u (rs1 mem a).2 := by
  cases a with
  | ptr id ver off =>
    simp only [rs1] at hc ⊢
    split at hc
    · rename_i ver' cs hm
      obtain ⟨rfl, hc⟩ := hc
      obtain ⟨_, _, hinv⟩ := h.ptr_inv
      obtain ⟨b, c, hb, hu⟩ := hinv _ hm
      have hob := hw.obj id
      rw [hm, hb] at hob
      obtain ⟨b', c', arr, e, hl, hh, hs, hr⟩ := hob
      cases hl
      have hbo := hw.own id b c (by rw [hm]; rfl) hb
      rw [hu]
      refine .fp _ _ (fun j => arr.getD (off + j) undef) ⟨hbo.2.2, hbo.1⟩ (fun j hj => ?_) (fun j hj => ?_)
      · rw [rsC_length] at hj
        rw [add_lit, cell_of_row w b (off + j) arr e (0, 0) hh]
        have : off + j < arr.size := by simp at hj; omega
        simp [this]
      · rw [rsC_length] at hj
        obtain ⟨k1, k2⟩ := rsC_at hc j hj
        rw [k2]
        rw [getD_drop] at k1 ⊢
        exact rs0_sound hw (hr _ (by simp at hj; omega)) k1
    · exact .undef _
  | _ => exact rs0_sound hw h hc

theorem rs2_sound (hw : WS X Y w0 w bl mem) {u : Value} {a : AV} (h : VV w (Fr X w bl mem) bl mem u a) (hc : (rs2 mem a).1) : FV w (Fr2 X w) u (rs2 mem a).2 := by
  cases a with
  | agg cs =>
    obtain ⟨vs, rfl, hl, hr⟩ := h.agg_inv
    simp only [rs2] at hc ⊢
    refine .agg vs _ (by rw [rsC_length]; exact hl) (fun j hj => ?_)
    rw [rsC_length] at hj
    obtain ⟨k1, k2⟩ := rsC_at hc j hj
    rw [k2]
    exact rs0_sound hw (hr j hj) k1
  | fn f cs =>
    obtain ⟨vs, rfl, hl, hr⟩ := h.fn_inv
    simp only [rs2] at hc ⊢
    refine .fn f vs _ (by rw [rsC_length]; exact hl) (fun j hj => ?_)
    rw [rsC_length] at hj
    obtain ⟨k1, k2⟩ := rsC_at hc j hj
    rw [k2]
    exact rs1_sound hw (hr j hj) k1
  | _ => exact rs1_sound hw h hc

theorem WS.self (hx : ∀ b, X b → b < w.heap.size) : WS X (fun _ => False) w w bl mem0 :=
  ⟨rfl, rfl, rfl, Nat.le_refl _, hx, fun _ _ _ => rfl, fun _ => trivial, fun i j b c d hi => by simp [mem0, AO.live] at hi, fun i b c hi => by simp [mem0, AO.live] at hi⟩

/-- **A call that only looks, and hands back plain values: whatever the call owns may be handed to it.** -/
theorem CallW.sc {f : Nat} {args args0 : List AV} {R : AV → Prop} {K : AV → Mem → Prop} (h : Pure P f args0 R) (ha : (rsC (rs2 mem) args).2 = args0) (hc : (rsC (rs2 mem) args).1) (hk : ∀ r, R r → isSc r = true ∧ K r mem) : CallW P f args mem K := by
  subst ha
  refine ⟨h.1, fun X Y w0 w bl vs hw hs hv => ?_⟩
  have hx : ∀ b, X b → b < w.heap.size := fun b hb => Nat.lt_of_lt_of_le (hw.xlt b hb) hw.size
  refine (h.2 X (fun _ => False) w w bl vs (WS.self hx) (by rw [rsC_length]; exact hs) (fun j hj => ?_)).mono fun e w' ⟨u, r, m', bl', he, hr, hw', hu, _, _⟩ => ?_
  · rw [rsC_length] at hj
    obtain ⟨k1, k2⟩ := rsC_at hc j hj
    rw [k2]
    refine .fz ((rs2_sound hw (hv j hj) k1).mono fun b hb => ⟨⟨hb.1, hb.2, fun ⟨i, c, hi, _⟩ => by simp [mem0, AO.live] at hi⟩, rfl⟩)
  · obtain ⟨g1, g2⟩ := hw.grow (w' := w') hw'.os hw'.tape hw'.output hw'.size (fun b hb => hw'.frame b hb (fun h => h))
    obtain ⟨k1, k2⟩ := hk r hr
    exact ⟨u, r, mem, bl, he, k2, g1, .fz (hu.sc k1), g2, Later.refl _ _⟩

theorem fz_args (hw : WS X Y w0 w bl mem) {args : List AV} {vs : Array Value} (hz : args.all isFzD = true) (hv : ∀ j, j < args.length → VV w (Fr X w bl mem) bl mem (vs.getD j undef) (args.getD j .undef)) :
    ∀ j, j < (args.map wk).length → VV w (Fr (fun b => X b ∨ Own bl mem b) w bl mem0) bl mem0 (vs.getD j undef) ((args.map wk).getD j .undef) := fun j hj => by
  have hj : j < args.length := by simpa using hj
  rw [getD_map _ _ hj]
  exact .fz (((hv j hj).toFzD (all_getD hz hj)).wk.mono fun b hb => ⟨⟨hb.1, fun h => h.elim hb.2.1 hb.2.2, fun ⟨i, c, hi, _⟩ => by simp [mem0, AO.live] at hi⟩, rfl⟩)

theorem own_lt (hw : WS X Y w0 w bl mem) : ∀ b, (X b ∨ Own bl mem b) → b < w.heap.size := fun b hb => by
  rcases hb with hb | ⟨i, c, hi, hb⟩
  · exact Nat.lt_of_lt_of_le (hw.xlt b hb) hw.size
  · exact (hw.own i b c hi hb).2.2

/-- **A call that is handed data that is only read, and hands back such.** -/
theorem CallW.fz {f : Nat} {args args0 : List AV} {R : AV → Prop} {K : AV → Mem → Prop} (h : Pure P f args0 R) (ha : args.map wk = args0) (hz : args.all isFzD = true) (hk : ∀ r, R r → isFzD r = true ∧ K r mem) : CallW P f args mem K := by
  subst ha
  refine ⟨h.1, fun X Y w0 w bl vs hw hs hv => ?_⟩
  refine (h.2 (fun b => X b ∨ Own bl mem b) (fun _ => False) w w bl vs (WS.self (own_lt hw)) (by simpa using hs) (fz_args hw hz hv)).mono fun e w' ⟨u, r, m', bl', he, hr, hw', hu, _, _⟩ => ?_
  obtain ⟨g1, g2⟩ := hw.grow (w' := w') hw'.os hw'.tape hw'.output hw'.size (fun b hb => hw'.frame b hb (fun h => h))
  obtain ⟨k1, k2⟩ := hk r hr
  exact ⟨u, r, mem, bl, he, k2, g1, .fz ((hu.toFzD k1).mono fun b hb => ⟨⟨hb.1, fun h => hb.2.1 (.inl h), fun h => hb.2.1 (.inr h)⟩, rfl⟩), g2, Later.refl _ _⟩

/-- **A call that hands back a row of its own: the caller's object 'site'.** -/
theorem CallW.own {f : Nat} {args args0 : List AV} {R : Nat → Nat → Nat → (Nat → AV) → Prop} {K : AV → Mem → Prop} (site : Nat) (h : CallW P f args0 mem0 fun r m => ∃ id ver e sz n g, r = .sl id ver n ∧ m id = .row ver e sz n g ∧ R e sz n g) (ha : args.map wk = args0) (hz : args.all isFzD = true)
    (hk : ∀ e sz n g, R e sz n g → K (.sl site ((mem site).ver + 1) n) (Mem.set site (.row ((mem site).ver + 1) e sz n g) mem)) : CallW P f args mem K := by
  subst ha
  refine ⟨h.1, fun X Y w0 w bl vs hw hs hv => ?_⟩
  refine (h.2 (fun b => X b ∨ Own bl mem b) (fun _ => False) w w bl vs (WS.self (own_lt hw)) (by simpa using hs) (fz_args hw hz hv)).mono fun e w' ⟨u, r, m', bl', he, ⟨id, ver, et, sz, n, g, hre, hm, hR⟩, hw', hu, _, _⟩ => ?_
  subst hre
  have hlive : (m' id).live = true := by rw [hm]; rfl
  have hheap : ∀ b, b < w.heap.size → w'.heap[b]? = w.heap[b]? := fun b hb => hw'.frame b hb (fun h => h)
  obtain ⟨_, _, _, _, hinv⟩ := hu.sl_inv
  obtain ⟨_, hu'⟩ := hinv _ _ _ _ hm
  obtain ⟨g1, g2, g3⟩ := WS.upd (w' := w') hw site (.row ((mem site).ver + 1) et sz n g) (bl' id) (Nat.le_succ _) (fun h => by simp only [AO.ver] at h; omega) hw'.os hw'.tape hw'.output hw'.size (fun b hb _ => hheap b hb)
    (fun b c _ hb => by
      have := hw'.own id b c hlive hb
      exact ⟨.inl (this.2.1.resolve_left (fun h => h)), this.2.2⟩)
    (fun hF hL => by
      have hob := hw'.obj id
      rw [hm] at hob
      obtain ⟨hz, xs, hown, hr⟩ := hob
      refine ⟨hz, xs, hown, fun i hi => ⟨(hr i hi).1, fun j hj => ((hr i hi).2 j hj).mono fun b hb => ⟨⟨hb.1, fun h => hb.2.1 (.inl h), ?_⟩, rfl⟩⟩⟩
      rintro ⟨k, c, hk1, hk2⟩
      by_cases ek : k = site
      · subst ek
        rw [updL_same] at hk2
        exact hb.2.2 ⟨id, c, hlive, hk2⟩
      · rw [set_ne ek] at hk1
        rw [updL_ne ek] at hk2
        exact hb.2.1 (.inr ⟨k, c, hk1, hk2⟩))
  exact ⟨u, _, _, _, he, hk et sz n g hR, g1, VV.new_sl hu', g2, g3⟩

/-- The same for a call that may hand back a slice without room. -/
theorem CallW.own0 {f : Nat} {args args0 : List AV} {R0 : Prop} {R : Nat → Nat → Nat → (Nat → AV) → Prop} {K : AV → Mem → Prop} (site : Nat) (h : CallW P f args0 mem0 fun r m => (r = .cap0 ∧ R0) ∨ ∃ id ver e sz n g, r = .sl id ver n ∧ m id = .row ver e sz n g ∧ R e sz n g) (ha : args.map wk = args0) (hz : args.all isFzD = true)
    (hk0 : R0 → K .cap0 mem) (hk : ∀ e sz n g, R e sz n g → K (.sl site ((mem site).ver + 1) n) (Mem.set site (.row ((mem site).ver + 1) e sz n g) mem)) : CallW P f args mem K := by
  subst ha
  refine ⟨h.1, fun X Y w0 w bl vs hw hs hv => ?_⟩
  refine (h.2 (fun b => X b ∨ Own bl mem b) (fun _ => False) w w bl vs (WS.self (own_lt hw)) (by simpa using hs) (fz_args hw hz hv)).mono fun e w' ⟨u, r, m', bl', he, hre0, hw', hu, _, _⟩ => ?_
  have hheap : ∀ b, b < w.heap.size → w'.heap[b]? = w.heap[b]? := fun b hb => hw'.frame b hb (fun h => h)
  rcases hre0 with ⟨hre, hR⟩ | ⟨id, ver, et, sz, n, g, hre, hm, hR⟩
  · subst hre
    obtain ⟨g1, g2⟩ := hw.grow (w' := w') hw'.os hw'.tape hw'.output hw'.size hheap
    have hu' := hu.cap0_inv
    exact ⟨u, _, mem, bl, he, hk0 hR, g1, by rw [hu']; exact .fz .cap0, g2, Later.refl _ _⟩
  subst hre
  have hlive : (m' id).live = true := by rw [hm]; rfl
  obtain ⟨_, _, _, _, hinv⟩ := hu.sl_inv
  obtain ⟨_, hu'⟩ := hinv _ _ _ _ hm
  obtain ⟨g1, g2, g3⟩ := WS.upd (w' := w') hw site (.row ((mem site).ver + 1) et sz n g) (bl' id) (Nat.le_succ _) (fun h => by simp only [AO.ver] at h; omega) hw'.os hw'.tape hw'.output hw'.size (fun b hb _ => hheap b hb)
    (fun b c _ hb => by
      have := hw'.own id b c hlive hb
      exact ⟨.inl (this.2.1.resolve_left (fun h => h)), this.2.2⟩)
    (fun hF hL => by
      have hob := hw'.obj id
      rw [hm] at hob
      obtain ⟨hz, xs, hown, hr⟩ := hob
      refine ⟨hz, xs, hown, fun i hi => ⟨(hr i hi).1, fun j hj => ((hr i hi).2 j hj).mono fun b hb => ⟨⟨hb.1, fun h => hb.2.1 (.inl h), ?_⟩, rfl⟩⟩⟩
      rintro ⟨k, c, hk1, hk2⟩
      by_cases ek : k = site
      · subst ek
        rw [updL_same] at hk2
        exact hb.2.2 ⟨id, c, hlive, hk2⟩
      · rw [set_ne ek] at hk1
        rw [updL_ne ek] at hk2
        exact hb.2.1 (.inr ⟨k, c, hk1, hk2⟩))
  exact ⟨u, _, _, _, he, hk et sz n g hR, g1, VV.new_sl hu', g2, g3⟩

/-! ### letting rows go ahead of a call, and at a function's end -/
def frzA (v : AV) (mem : Mem) : Option (Prop × AV × Mem) :=
  match v with
  | .agg cs => match frzL cs mem with
    | some (c, r, m) => some (c, .agg r, m)
    | none => none
  | .fn f cs => bif cs.all isFz0 then some (True, .fn f cs, mem) else none
  | v => frz0 mem v
def frzAL : List AV → Mem → Option (Prop × List AV × Mem)
  | [], mem => some (True, [], mem)
  | v :: vs, mem => match frzA v mem with
    | some (c, v', m) => match frzAL vs m with
      | some (d, r, m') => some (c ∧ d, v' :: r, m')
      | none => none
    | none => none

theorem frzA_sound (hw : WS X Y w0 w bl mem) {u : Value} {v v' : AV} {c : Prop} {mem' : Mem} (hu : VV w (Fr X w bl mem) bl mem u v) (h : frzA v mem = some (c, v', mem')) (hc : c) :
    ∃ bl', WS X Y w0 w bl' mem' ∧ (∀ b, Fr X w bl mem b → Fr X w bl' mem' b) ∧ Later mem mem' bl bl' ∧ FV w (Fr X w bl' mem') u v' := by
  have hcell : ∀ {v}, frz0 mem v = some (c, v', mem') → VV w (Fr X w bl mem) bl mem u v → ∃ bl', WS X Y w0 w bl' mem' ∧ (∀ b, Fr X w bl mem b → Fr X w bl' mem' b) ∧ Later mem mem' bl bl' ∧ FV w (Fr X w bl' mem') u v' := fun {v} h hu => by
    obtain ⟨bl', h1, h2, h3, _, _, h6⟩ := frzL_sound [v] mem bl (fun _ => u) (c ∧ True) [v'] mem' hw (fun j hj => by
      have : j = 0 := by simpa using hj
      subst this; simpa using hu) (by simp [frzL, h]) ⟨hc, trivial⟩
    exact ⟨bl', h1, h2, h3, by simpa using h6 0 (by simp)⟩
  cases v with
  | agg cs =>
    simp only [frzA] at h
    split at h <;> cases h
    rename_i r hr
    obtain ⟨vs, rfl, hl, hvr⟩ := hu.agg_inv
    obtain ⟨bl', h1, h2, h3, h4, _, h6⟩ := frzL_sound cs mem bl (fun j => vs.getD j undef) c r mem' hw (fun j hj => hvr j hj) hr hc
    exact ⟨bl', h1, h2, h3, .agg vs r (by omega) fun j hj => h6 j (by omega)⟩
  | fn f cs =>
    simp only [frzA] at h
    generalize hb : cs.all isFz0 = bb at h
    cases bb with
    | false => cases h
    | true => cases h; exact ⟨bl, hw, fun _ h => h, Later.refl _ _, hu.toFzD hb⟩
  | _ => exact hcell (v := _) (by simpa only [frzA] using h) hu

theorem frzAL_sound : ∀ (vs : List AV) (mem : Mem) (bl : Nat → Loc) (us : Nat → Value) (c : Prop) (r : List AV) (mem' : Mem), WS X Y w0 w bl mem → (∀ j, j < vs.length → VV w (Fr X w bl mem) bl mem (us j) (vs.getD j .undef)) → frzAL vs mem = some (c, r, mem') → c →
    ∃ bl', WS X Y w0 w bl' mem' ∧ (∀ b, Fr X w bl mem b → Fr X w bl' mem' b) ∧ Later mem mem' bl bl' ∧ r.length = vs.length ∧ ∀ j, j < vs.length → FV w (Fr X w bl' mem') (us j) (r.getD j .undef)
  | [], mem, bl, us, c, r, mem', hw, hu, h, hc => by
    simp only [frzAL, Option.some.injEq, Prod.mk.injEq] at h
    obtain ⟨_, rfl, rfl⟩ := h
    exact ⟨bl, hw, fun _ h => h, Later.refl _ _, rfl, fun j hj => by simp at hj⟩
  | v :: vs, mem, bl, us, c, r, mem', hw, hu, h, hc => by
    simp only [frzAL] at h
    split at h
    · rename_i c1 v' m1 h1
      split at h <;> cases h
      rename_i d r' h2
      obtain ⟨hc1, hd⟩ := hc
      obtain ⟨bl1, g1, g2, g3, g4⟩ := frzA_sound hw (by simpa using hu 0 (by simp)) h1 hc1
      obtain ⟨bl2, k1, k2, k3, k4, k5⟩ := frzAL_sound vs m1 bl1 (fun j => us (j + 1)) d r' mem' g1 (fun j hj => by simpa using (hu (j + 1) (by simpa using hj)).mono (fun b hb => ⟨g2 b hb, rfl⟩) g3) h2 hd
      refine ⟨bl2, k1, fun b hb => k2 b (g2 b hb), g3.trans k3, by simp [k4], fun j hj => ?_⟩
      cases j with
      | zero => simpa using g4.mono fun b hb => ⟨k2 b hb, rfl⟩
      | succ j => simpa using k5 j (by simpa using hj)
    · cases h

/-- **The rows that are handed over are let go.** -/
theorem CallW.frz {f : Nat} {args args' : List AV} {c : Prop} {mem' : Mem} {K : AV → Mem → Prop} (hz : frzAL args mem = some (c, args', mem')) (hc : c) (h : CallW P f args' mem' K) : CallW P f args mem K := by
  refine ⟨h.1, fun X Y w0 w bl vs hw hs hv => ?_⟩
  obtain ⟨bl1, g1, g2, g3, g4, g5⟩ := frzAL_sound args mem bl (fun j => vs.getD j undef) c args' mem' hw hv hz hc
  refine (h.2 X Y w0 w bl1 vs g1 (by omega) (fun j hj => .fz (g5 j (by omega)))).mono fun e w' ⟨u, r, m', bl', he, hK, hw', hu, hF, hL⟩ => ?_
  exact ⟨u, r, m', bl', he, hK, hw', hu, fun b hb => hF b (g2 b hb), g3.trans hL⟩

/-- What a function hands back, its rows let go. -/
def RetF (rl : List AI) (R : AV → Prop) : AX → Env → Mem → Prop
  | .exit _, _, _ => False
  | _, env, mem => match retL env mem rl with
    | some (c, vs) => match frzAL vs mem with
      | some (d, r, _) => c ∧ d ∧ R (wk (retV r))
      | none => False
    | none => False

theorem retV_parts {u : Value} {vs : List AV} {F : Nat → Prop} (h : VV w F bl mem u (retV vs)) : ∃ us : Nat → Value, (∀ j, j < vs.length → VV w F bl mem (us j) (vs.getD j .undef)) ∧ ∀ (F' : Nat → Prop) (r : List AV), r.length = vs.length → (∀ j, j < vs.length → FV w F' (us j) (r.getD j .undef)) → FV w F' u (retV r) := by
  match vs, h with
  | [], h =>
    obtain ⟨as, rfl, hal, _⟩ := VV.tup_inv h
    refine ⟨fun _ => undef, fun j hj => by simp at hj, fun F' r hl _ => ?_⟩
    obtain rfl : r = [] := List.eq_nil_of_length_eq_zero hl
    exact .tup as [] hal (fun j hj => by simp at hj)
  | [v], h =>
    refine ⟨fun _ => u, fun j hj => by
      have : j = 0 := by simpa using hj
      subst this; exact h, fun F' r hl hr => ?_⟩
    obtain ⟨r0, rfl⟩ : ∃ r0, r = [r0] := List.length_eq_one_iff.1 hl
    exact hr 0 (by simp)
  | v :: v2 :: rest, h =>
    obtain ⟨as, rfl, hal, har⟩ := VV.tup_inv (show VV w F bl mem u (.tup (v :: v2 :: rest)) from h)
    refine ⟨fun j => as.getD j undef, fun j hj => har j hj, fun F' r hl hr => ?_⟩
    match r, hl, hr with
    | r0 :: r1 :: r', hl, hr => exact .tup as _ (by rw [hal]; exact hl.symm) (fun j hj => hr j (by rw [← hl]; exact hj))

/-- **A function by itself: what it hands back is data that is only read.** -/
theorem Fn.pure (hm : P.follows .mixedOrders = true) {f : Nat} {ac : AC} {rl : List AI} {args : List AV} {R : AV → Prop} (hf : Fn P f args.length ac rl) (h : awp P ac (RetF rl R) (env0 args) mem0) : Pure P f args R := by
  -- the rows are let go behind the call
  have key : CallW P f args mem0 fun r m => ∃ vs c d r', r = retV vs ∧ frzAL vs m = some (d, r', c) ∧ d ∧ R (wk (retV r')) := by
    refine Fn.call hm hf (awp_mono ac h fun x e m hx => ?_)
    cases x with
    | exit id => exact hx
    | normal =>
      simp only [RetF, Ret] at hx ⊢
      split at hx
      · rename_i c vs h1
        split at hx
        · rename_i d r m2 h2
          rw [h1]
          exact ⟨hx.1, vs, m2, d, r, rfl, h2, hx.2.1, hx.2.2⟩
        · exact hx.elim
      · exact hx.elim
    | ret =>
      simp only [RetF, Ret] at hx ⊢
      split at hx
      · rename_i c vs h1
        split at hx
        · rename_i d r m2 h2
          rw [h1]
          exact ⟨hx.1, vs, m2, d, r, rfl, h2, hx.2.1, hx.2.2⟩
        · exact hx.elim
      · exact hx.elim
  refine ⟨key.1, fun X Y w0 w bl vs hw hs hv => (key.2 X Y w0 w bl vs hw hs hv).mono fun e w' ⟨u, r, m', bl', he, ⟨as, m2, d, r', hre, hz, hd, hR⟩, hw', hu, hF, hL⟩ => ?_⟩
  subst hre
  obtain ⟨us, k1, k2⟩ := retV_parts hu
  obtain ⟨bl2, g1, g2, g3, g4, g5⟩ := frzAL_sound as m' bl' us d r' m2 hw' k1 hz hd
  exact ⟨u, wk (retV r'), m2, bl2, he, hR, g1, .fz (k2 _ r' g4 g5).wk, fun b hb => ⟨g2 b (hF b hb).1, (hF b hb).2⟩, hL.trans g3⟩

end
end Go.Ab
