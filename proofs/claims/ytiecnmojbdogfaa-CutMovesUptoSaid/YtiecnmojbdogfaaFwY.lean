/- More instructions that write or make memory: maps, the bytes of a string. -/
import Derived.Test.YtiecnmojbdogfaaFwH
import Derived.Laws.IdiomStrings
import Derived.Lib.AppendZeros
import Derived.Maps.RangeRun
import Derived.Maps.Range
set_option linter.unusedSimpArgs false
set_option linter.unusedVariables false
namespace Go.Ab
open Go

def compE2 (P : Program) (site : Nat) (op : Op) : Option EI :=
  match op with
  | .makeMap t none => match P.underlying t with
    | some (.map kt et) => match mkOf P kt, ekOf P et with
      | some d, some k => some (.mkmap site d k)
      | _, _ => none
    | _ => none
  | .mapUpdate t m key v => match P.underlying t with
    | some (.map kt et) => match mkOf P kt, ekOf P et with
      | some d, some k => some (.mapup d k (Opd.of m) (Opd.of key) (Opd.of v))
      | _, _ => none
    | _ => none
  | .convert s d x => match P.underlying s, P.underlying d with
    | some .string, some (.slice e) => match P.underlying e with
      | some (.int .u8) => some (.strb (Opd.of x))
      | _ => none
    | some (.slice e), some .string => match P.underlying e with
      | some (.int .u8) => some (.bstr (Opd.of x))
      | _ => none
    | _, _ => none
  | .slice t x none none none => match P.underlying t with
    | some (.array ln e) => match tsize P e with
      | some 1 => some (.slca ln (Opd.of x))
      | _ => none
    | _ => none
  | .call c => match c.callee, c.args.toList, c.argTypes.toList with
    | .builtin .append, [x, y], [t, t'] => match P.underlying t, P.underlying t' with
      | some (.slice e), some (.int _) => match P.info? e with
        | some ie => match ie.zero with
          | some z => bif Nat.beq z.cells.size ie.size && Nat.ble 1 ie.size then some (.appz site e ie.size ie.bytes (cvl z) (Opd.of x) (Opd.of y)) else none
          | none => none
        | none => none
      | _, _ => none
    | .builtin .clear, [x], [t] => match P.underlying t with
      | some (.slice e) => match P.info? e with
        | some ie => match ie.zero with
          | some z => bif Nat.beq z.cells.size 1 && (cvl z).all AV.isCell then some (.clr (cvl z) (Opd.of x)) else none
          | none => none
        | none => none
      | _ => none
    | _, _, _ => none
  | .insert t m key v => match P.underlying t with
    | some (.map kt et) => match mkOf P kt, ekOf P et with
      | some d, some k => some (.mapup d k (Opd.of m) (Opd.of key) (Opd.of v))
      | _, _ => none
    | _ => none
  | .range t x => match P.underlying t with
    | some (.map _ _) => some (.range site (Opd.of x))
    | _ => none
  | .entry x => some (.entry (Opd.of x))
  | _ => none
def compEX (P : Program) (site : Nat) (op : Op) : Option EI := match compE P site op with
  | some i => some i
  | none => compE2 P site op

section
variable {P : Program} {X Y : Nat → Prop} {w0 w : World} {bl : Nat → Loc} {mem : Mem} {a : Act} {env : Env} {o : Oper} {site : Nat}

theorem keyEq_ne {a b : Value} (h : a ≠ b) : keyEq a b = false := by
  cases hb : keyEq a b with
  | false => rfl
  | true => exact absurd (keyEq_true hb) h

theorem mapRep_push {es : Array MapEntry} {clock : Nat} {d : MK} {k : Option IntKind} {p : Value → Bool} {g : Value → Int} (h : MapRep es clock d k p g) {kv : Value} (hk : d.isK kv) (n : Int) (hne : ∀ x ∈ es.toList, x.key ≠ kv) :
    MapRep (es.push { key := kv, val := elV k n, born := clock }) (clock + 1) d k (fun q => bif keyEq q kv then true else p q) (fun q => bif keyEq q kv then n else g q) := by
  obtain ⟨hs, hik, hv, hp, hg⟩ := h
  refine ⟨MapKept.stamped_push hs hne, fun x hx => ?_, fun x hx => ?_, fun q hq => ?_, fun q hq => ?_⟩
  · simp only [Array.toList_push, List.mem_append, List.mem_singleton] at hx
    rcases hx with hx | rfl
    · exact hik x hx
    · exact hk
  · simp only [Array.toList_push, List.mem_append, List.mem_singleton] at hx
    rcases hx with hx | rfl
    · simp only [keyEq_ne (hne x hx), cond_false]
      exact hv x hx
    · simp only [keyEq_self hk, cond_true, and_self]
  · cases hb : keyEq q kv with
    | true => exact ⟨{ key := kv, val := elV k n, born := clock }, by simp, (keyEq_true hb).symm⟩
    | false =>
      simp only [hb, cond_false] at hq
      obtain ⟨x, hx, e⟩ := hp q hq
      exact ⟨x, by simp [hx], e⟩
  · cases hb : keyEq q kv with
    | true => simp [hb] at hq
    | false => simp only [hb, cond_false] at hq ⊢; exact hg q hq

theorem mapRep_modify {es : Array MapEntry} {clock : Nat} {d : MK} {k : Option IntKind} {p : Value → Bool} {g : Value → Int} (h : MapRep es clock d k p g) {kv : Value} (hk : d.isK kv) (n : Int) {j : Nat} {e : MapEntry} (hj : es.toList[j]? = some e) (hek : e.key = kv) :
    MapRep (es.modify j fun x => { x with key := kv, val := elV k n }) clock d k (fun q => bif keyEq q kv then true else p q) (fun q => bif keyEq q kv then n else g q) := by
  obtain ⟨hs, hik, hv, hp, hg⟩ := h
  have hj' : es[j]? = some e := by simpa using hj
  have hkey : ∀ e', es[j]? = some e' → ({ e' with key := kv, val := elV k n } : MapEntry).key = e'.key := fun e' he' => by rw [hj'] at he'; cases he'; exact hek.symm
  -- what stands at each place
  have hat : ∀ i, (es.modify j fun x => { x with key := kv, val := elV k n })[i]? = if j = i then es[i]?.map (fun x => { x with key := kv, val := elV k n }) else es[i]? := fun i => by
    rw [Array.getElem?_modify]
  have mem_of : ∀ x ∈ (es.modify j fun x => { x with key := kv, val := elV k n }).toList, (x.key = kv ∧ x.val = elV k n) ∨ (x ∈ es.toList ∧ x.key ≠ kv) := fun x hx => by
    obtain ⟨i, hi⟩ := List.mem_iff_getElem?.1 hx
    have hi' : (es.modify j fun x => { x with key := kv, val := elV k n })[i]? = some x := by rw [← Array.getElem?_toList]; exact hi
    rw [hat] at hi'
    by_cases e1 : j = i
    · rw [if_pos e1] at hi'
      obtain ⟨y, hy, rfl⟩ := Option.map_eq_some_iff.1 hi'
      exact .inl ⟨rfl, rfl⟩
    · rw [if_neg e1] at hi'
      have hi2 : es.toList[i]? = some x := by simpa using hi'
      refine .inr ⟨List.mem_of_getElem? hi2, fun hxk => e1 ?_⟩
      have hnd := hs.2.2
      have h1 : (es.toList.map (·.key))[i]? = some kv := by simp [List.getElem?_map, hi2, hxk]
      have h2 : (es.toList.map (·.key))[j]? = some kv := by simp [List.getElem?_map, hj, hek]
      have hlt : j < (es.toList.map (·.key)).length := (List.getElem?_eq_some_iff.1 h2).1
      exact (List.getElem?_inj hlt hnd).1 (h2.trans h1.symm)
  have in_of : ∀ x ∈ es.toList, x.key ≠ kv → x ∈ (es.modify j fun x => { x with key := kv, val := elV k n }).toList := fun x hx hne => by
    obtain ⟨i, hi⟩ := List.mem_iff_getElem?.1 hx
    refine List.mem_iff_getElem?.2 ⟨i, ?_⟩
    have : (es.modify j fun x => { x with key := kv, val := elV k n })[i]? = some x := by
      rw [hat]
      by_cases e1 : j = i
      · subst e1; rw [hj] at hi; cases hi; exact absurd hek hne
      · rw [if_neg e1]; rw [← Array.getElem?_toList]; exact hi
    rw [Array.getElem?_toList]; exact this
  refine ⟨MapKept.stamped_modify hs _ _ (fun _ _ => rfl) (fun e' _ he' => hkey e' he'), fun x hx => ?_, fun x hx => ?_, fun q hq => ?_, fun q hq => ?_⟩
  · rcases mem_of x hx with ⟨h1, _⟩ | ⟨h1, _⟩
    · rw [h1]; exact hk
    · exact hik x h1
  · rcases mem_of x hx with ⟨h1, h2⟩ | ⟨h1, h2⟩
    · rw [h1]; simp only [keyEq_self hk, cond_true, true_and]; exact h2
    · simp only [keyEq_ne h2, cond_false]; exact hv x h1
  · cases hb : keyEq q kv with
    | true =>
      have hjj : (es.modify j fun x => { x with key := kv, val := elV k n })[j]? = some { e with key := kv, val := elV k n } := by rw [hat, if_pos rfl, hj']; rfl
      exact ⟨_, List.mem_of_getElem? (by rw [Array.getElem?_toList]; exact hjj), (keyEq_true hb).symm⟩
    | false =>
      simp only [hb, cond_false] at hq
      obtain ⟨x, hx, e1⟩ := hp q hq
      refine ⟨x, in_of x hx fun h1 => ?_, e1⟩
      rw [← e1, h1, keyEq_self hk] at hb
      cases hb
  · cases hb : keyEq q kv with
    | true => simp [hb] at hq
    | false => simp only [hb, cond_false] at hq ⊢; exact hg q hq

theorem elN_sound {F : Nat → Prop} {k : Option IntKind} {u : Value} {v : AV} {n : Int} (hu : VV w F bl mem u v) (h : elN k v = some n) : u = elV k n := by
  cases k <;> cases v <;> simp only [elN] at h <;> try (cases h; done)
  · rename_i b
    cases h
    rw [hu.bool_inv]
    cases b <;> rfl
  · rename_i k k' m
    cases hk : kEq k k' with
    | false => rw [hk] at h; cases h
    | true =>
      rw [hk] at h
      cases h
      have := kEq_eq hk
      subst this
      exact hu.int_inv

theorem bytesRow_size {s : ByteArray} {cap : Nat} : (bytesRow s cap).size = s.size + (cap - s.size) := by
  unfold bytesRow; rw [Array.size_append, Array.size_map, Array.size_replicate]; rfl
theorem bytesRow_at {s : ByteArray} {cap i : Nat} (hi : i < s.size) : (bytesRow s cap).getD i undef = .int .u8 ((s.data.toList.getD i 0).toNat : Int) := by
  have hi' : i < s.data.size := hi
  simp [bytesRow, Array.getElem?_append, hi', hi, List.getD_eq_getElem?_getD]

theorem run_append_zeros {t tn ty e : TypeId} {i : TypeInfo} {z : Value} {k kn : IntKind} (ht : P.underlying t = some (.slice e)) (htn : P.underlying tn = some (.int kn)) (hi : P.info? e = some i) (hz : i.zero = some z)
    (ad : Option Addr) (n : Nat) (h0 : 0 < n) (hs : 0 < i.size) (h63 : (n : Int) ≤ 9223372036854775807) (h48 : n * i.bytes ≤ 281474976710656) :
    (Builtin.append_ #[t, tn] ty #[.slice ad 0 0, .int k n]).run P w =
      .ok (.slice (some ⟨w.heap.size, 0, none⟩) n (grownCap w n 0 e)) (w.drew.alloc (.cells (Builtin.zeroCells z.cells n ++ Builtin.zeroCells z.cells (grownCap w n 0 e - n)) e)) := by
  cases ad with
  | none => exact Lib.run_append_nil_zeros w t tn ty e i z k kn ht htn hi hz n h0 hs h63 h48
  | some a =>
    have hn : n ≠ 0 := by omega
    have hw : IntKind.i64.wrap (n : Int) = n := by rw [IntKind.wrap_i64]; omega
    have h63' : ¬ (9223372036854775807 < (n : Int)) := by omega
    have h48' : ¬ (281474976710656 < Builtin.nextslicecap n 0 * i.bytes) := by rw [nextslicecap_zero h0]; omega
    have h48i : ¬ (281474976710656 < (n : Int) * (i.bytes : Int)) := by
      rw [← Int.natCast_mul]
      omega
    have hneg : ¬ ((n : Int) < 0) := by omega
    have hns : ¬ (n * i.size = 0) := Nat.mul_ne_zero hn (by omega)
    have hfc : (Builtin.firstCells i.size 0 (.slice (some a) 0 0)).run P w.drew = .ok #[] w.drew := by simp [Builtin.firstCells, loadCells, loadCellsFrom]
    simp [Builtin.append_, run_underlying ht, run_underlying htn, sizeOf, typeInfo, zeroValue, hi, hz, asInt, asIntOf, hw, hn, hneg, hns, h63', h48', h48i, Question.forced, hfc, newRow, grownCap]

theorem getD_zero2 (zc : Array Value) (n m k : Nat) (hz : 0 < zc.size) (hk : k < n * zc.size) : (Builtin.zeroCells zc n ++ Builtin.zeroCells zc m).getD k undef = zc.getD (k % zc.size) undef := by
  have h1 : k % zc.size < zc.size := Nat.mod_lt _ hz
  simp [Builtin.zeroCells, Array.getElem?_append, hk, h1]

theorem zeroCells_one (c0 : Value) (n : Nat) : (Builtin.zeroCells #[c0] n).toList = List.replicate n c0 := by
  simp [Builtin.zeroCells]
  apply List.ext_getElem
  · simp
  · intro i h1 h2
    simp [Nat.mod_one]
theorem run_clear_at {t e ty : TypeId} {ie : TypeInfo} {z c0 : Value} (ht : P.underlying t = some (.slice e)) (hie : P.info? e = some ie) (hz : ie.zero = some z) (hz1 : z.cells = #[c0]) (h1 : c0.oneCell' = true) {b ofs n c : Nat} {arr : Array Value} {ee : TypeId} (hn : 0 < n)
    (hg : w.heap[b]? = some (.cells arr ee (0, 0))) (hfit : ofs + n ≤ arr.size) :
    (Builtin.clear_ #[t] ty #[.slice (some ⟨b, ofs, none⟩) n c]).run P w = .ok (.tuple #[]) (w.setRow b (arr.toList.take ofs ++ List.replicate n c0 ++ arr.toList.drop (ofs + n)).toArray) := by
  have := run_storeCells_at P b ofs ee (List.replicate n c0) 0 arr w hg (by simpa using hfit) (fun u hu => by rw [List.eq_of_mem_replicate hu]; exact h1)
  simp only [Nat.add_zero, List.length_replicate] at this
  obtain ⟨m, rfl⟩ : ∃ m, n = m + 1 := ⟨n - 1, by omega⟩
  simp [Builtin.clear_, run_underlying ht, zeroValue, typeInfo, hie, hz, hz1, zeroCells_one, storeCells, this]

theorem clrSound {c : Prop} {v : AV} {mem' : Mem} {t e : TypeId} {x : Operand} {ie : TypeInfo} {z : Value} (ht : P.underlying t = some (.slice e)) (hie : P.info? e = some ie) (hz : ie.zero = some z) (hb : z.cells.size = 1) (hcell : (cvl z).all AV.isCell = true)
    (hw : WS X Y w0 w bl mem) (hx : VV w (Fr X w bl mem) bl mem (a.eval x) ((Opd.of x).ev env)) (hexec : ∀ u w', (Builtin.clear_ #[t] o.type #[a.eval x]).run P w = .ok u w' → (execOp a.eval o).run P w = .ok (.value u) w')
    (hs : (EI.clr (cvl z) (Opd.of x)).run env mem = some (c, v, mem')) (h : c) : Eff P X Y w0 w bl mem a o v mem' := by
  simp only [EI.run] at hs
  split at hs
  · rename_i id ver off n e1
    split at hs
    · rename_i ver' e' s m f hm
      generalize hbb : (Nat.beq s 1 && Nat.beq (cvl z).length 1) = bb at hs
      cases bb with
      | false => cases hs
      | true =>
        cases hs
        subst h
        simp only [Bool.and_eq_true] at hbb
        obtain rfl := Nat.eq_of_beq_eq_true hbb.1
        rw [e1] at hx
        obtain ⟨A, k, c1, hu, hinv⟩ := hx.sk_inv
        obtain ⟨hle, rfl, hA⟩ := hinv _ _ _ _ hm
        rcases Nat.eq_zero_or_pos k with h0 | h0
        · subst h0
          have hf : (fun j => bif Nat.ble off j && Nat.blt j (off + 0) then mkElt (cvl z) else f j) = f := funext fun j => by
            have : (Nat.ble off j && Nat.blt j (off + 0)) = false := by
              cases h1 : Nat.ble off j with
              | false => rfl
              | true =>
                have := Nat.le_of_ble_eq_true h1
                cases h2 : Nat.blt j (off + 0) with
                | false => rfl
                | true => have h3 := Nat.le_of_ble_eq_true h2; omega
            rw [this]; rfl
          rw [hf]
          have hmm : Mem.set id (.row ver e' 1 m f) mem = mem := funext fun j => by
            by_cases ej : j = id
            · subst ej; rw [set_same, hm]
            · rw [set_ne ej]
          rw [hmm]
          exact ⟨.tuple #[], w, bl, .inl (hexec _ _ (by rw [hu]; cases A <;> simp [Builtin.clear_, run_underlying ht])), hw, .tup #[] [] rfl (fun j hj => absurd hj (Nat.not_lt_zero _)), fun _ hb => ⟨hb, rfl⟩, Later.refl _ _⟩
        · obtain ⟨b, cc, hbl, rfl⟩ := hA h0
          have hob := hw.obj id
          rw [hm, hbl] at hob
          obtain ⟨hz0, xs, ⟨hxl, hown⟩, hr⟩ := hob
          rcases hown with ⟨hv', _⟩ | ⟨g, cap, cur, hv', _, hh, hnc, hcm, hcs, htk⟩
          · simp [slv] at hv'
          · simp only [slv, Value.slice.injEq, Option.some.injEq, Addr.mk.injEq] at hv'
            obtain ⟨⟨rfl, _⟩, _, rfl⟩ := hv'
            obtain ⟨c0, hc0⟩ : ∃ c0, z.cells = #[c0] := ⟨z.cells[0]'(by omega), by
              apply Array.ext
              · simp [hb]
              · intro i h1 h2
                obtain rfl : i = 0 := by omega
                rfl⟩
            have hzl : (cvl z).length = 1 := by simp [cvl, hb]
            have hone : ∀ u ∈ z.cells.toList, u.oneCell' = true := oneCells_of (w := w) (F := Fr X w bl mem) (bl := bl) (mem := mem) (by rw [hzl]; exact hb) (fun j hj => .fz (by
              have : (cvl z).getD j .undef = cvs (z.cells.getD j undef) := by
                rw [hzl] at hj
                simp [cvl, List.getD_eq_getElem?_getD, hb, hj]
              rw [this]
              exact FV.cvs _)) hcell
            have h1 : c0.oneCell' = true := hone c0 (by rw [hc0]; simp)
            simp only [Nat.mul_one] at *
            have hrun := run_clear_at (P := P) (w := w) (ty := o.type) (c := c1) ht hie hz hc0 h1 h0 hh (show off + k ≤ cur.size by omega)
            have hsetH := setRow_heap w b cur (cur.toList.take off ++ List.replicate k c0 ++ cur.toList.drop (off + k)).toArray _ _ hh
            have hlen : (cur.toList.take off ++ List.replicate k c0 ++ cur.toList.drop (off + k)).length = cc := by simp; omega
            have hmv : (mem id).ver = ver := by rw [hm]; rfl
            obtain ⟨g1, g2, g3⟩ := WS.upd (w' := w.setRow b (cur.toList.take off ++ List.replicate k c0 ++ cur.toList.drop (off + k)).toArray) hw id (.row ver e' 1 m (fun j => bif Nat.ble off j && Nat.blt j (off + k) then mkElt (cvl z) else f j)) (bl id) (by rw [hmv]; exact Nat.le_refl _) (fun _ => ⟨by rw [hm]; simp [Kept], rfl⟩) rfl rfl rfl (by simp)
              (fun b2 _ hb2 => setRow_other w b b2 _ (fun e => hb2 cc (by rw [hm]; rfl) (by rw [hbl, e])))
              (fun b2 c2 _ hb2 => ⟨.inr ⟨by rw [hm]; rfl, c2, hb2⟩, by simpa using (hw.own id b2 c2 (by rw [hm]; rfl) hb2).2.2⟩)
              (fun hF hk => by
                rw [hbl] at hF hk ⊢
                refine ⟨hz0, (cur.toList.take off ++ List.replicate k c0 ++ cur.toList.drop (off + k)).take (m * 1), ⟨by rw [List.length_take, hlen]; omega, .inr ⟨b, cc, _, rfl, Nat.zero_le _, hsetH, hnc, hcm, by simpa using hlen, rfl⟩⟩, fun q hq => ?_⟩
                have hgetX : ∀ k', k' < m → ((cur.toList.take off ++ List.replicate k c0 ++ cur.toList.drop (off + k)).take (m * 1)).getD k' undef = if off ≤ k' ∧ k' < off + k then c0 else xs.getD k' undef := fun k' hk' => by
                  have := getD_segV cur.toList (List.replicate k c0) off k k' (by simp) (by simp; omega)
                  have e3 : ((cur.toList.take off ++ List.replicate k c0 ++ cur.toList.drop (off + k)).take (m * 1)).getD k' undef = (cur.toList.take off ++ List.replicate k c0 ++ cur.toList.drop (off + k)).getD k' undef := by
                    simp only [List.getD_eq_getElem?_getD, List.getElem?_take, if_pos (show k' < m * 1 by omega)]
                  have e4 : xs.getD k' undef = cur.toList.getD k' undef := by
                    rw [← htk]; simp only [List.getD_eq_getElem?_getD, List.getElem?_take, Nat.mul_one, if_pos hk']
                  rw [e3, this, e4]
                  by_cases h9 : off ≤ k' ∧ k' < off + k
                  · rw [if_pos h9, if_pos h9]
                    simp [List.getD_eq_getElem?_getD, show k' - off < k by omega]
                  · rw [if_neg h9, if_neg h9]
                obtain ⟨r1, r2⟩ := hr q hq
                by_cases hqi : off ≤ q ∧ q < off + k
                · have eb : (Nat.ble off q && Nat.blt q (off + k)) = true := by
                    rw [Nat.ble_eq_true_of_le hqi.1]; exact Nat.ble_eq_true_of_le hqi.2
                  simp only [eb, cond_true]
                  rw [mkElt_cvl]
                  refine ⟨hzl, fun j hj => ?_⟩
                  obtain rfl : j = 0 := by omega
                  have := hgetX q hq
                  simp only [Nat.mul_one, Nat.add_zero] at this ⊢
                  rw [this, if_pos hqi]
                  have : (cvl z).getD 0 .undef = cvs c0 := by simp [cvl, hc0]
                  rw [this]
                  exact FV.cvs _
                · have eb : (Nat.ble off q && Nat.blt q (off + k)) = false := by
                    cases h1 : Nat.ble off q with
                    | false => rfl
                    | true =>
                      have := Nat.le_of_ble_eq_true h1
                      cases h2 : Nat.blt q (off + k) with
                      | false => rfl
                      | true => have h3 := Nat.le_of_ble_eq_true h2; exact absurd ⟨this, h3⟩ hqi
                  simp only [eb, cond_false]
                  refine ⟨r1, fun j hj => ?_⟩
                  obtain rfl : j = 0 := by omega
                  have := hgetX q hq
                  simp only [Nat.mul_one, Nat.add_zero] at this ⊢
                  rw [this, if_neg hqi]
                  simpa using (r2 0 (by omega)).mono hF)
            refine ⟨.tuple #[], _, _, .inl (hexec _ _ (by rw [hu]; exact hrun)), g1, .tup #[] [] rfl (fun j hj => absurd hj (Nat.not_lt_zero _)), g2, g3⟩
    · cases hs
  · cases hs

theorem appzSound {i : EI} {c : Prop} {v : AV} {mem' : Mem} {cl : Call} (ho : o.op = .call cl) (hc : compE2 P site o.op = some i) (hw : WS X Y w0 w bl mem) (hv : ∀ k, VV w (Fr X w bl mem) bl mem (a.tmps.getD k undef) (env k))
    (hs : i.run env mem = some (c, v, mem')) (h : c) : Eff P X Y w0 w bl mem a o v mem' := by
  rw [ho] at hc
  obtain ⟨callee, ⟨args⟩, ⟨argTypes⟩⟩ := cl
  simp only [compE2] at hc
  split at hc
  · rename_i x y t t'
    split at hc
    · rename_i e kn ht ht'
      split at hc
      · rename_i ie hie
        split at hc
        · rename_i z hz
          generalize hb : (Nat.beq z.cells.size ie.size && Nat.ble 1 ie.size) = bb at hc
          cases bb with
          | false => cases hc
          | true =>
            simp only [Bool.and_eq_true] at hb
            cases hc
            have b1 := Nat.eq_of_beq_eq_true hb.1
            have b2 := Nat.le_of_ble_eq_true hb.2
            have hx := VV.opd hv x
            have hy := VV.opd hv y
            simp only [EI.run] at hs
            split at hs <;> cases hs
            rename_i k m e1 e2
            rw [e1] at hx; rw [e2] at hy
            obtain ⟨h0, hby, h63⟩ := h
            obtain ⟨ad, had⟩ : ∃ ad : Option Addr, ad = none := ⟨_, rfl⟩
            have hxu := hx.cap0_inv
            rw [← had] at hxu
            obtain ⟨n, rfl⟩ : ∃ n : Nat, m = n := ⟨m.toNat, by omega⟩
            have hby' : n * ie.bytes ≤ 281474976710656 := by
              have : ((n * ie.bytes : Nat) : Int) ≤ 140737488355328 := by rw [Int.natCast_mul, Int.mul_comm]; exact hby
              omega
            have hrun := run_append_zeros (P := P) (w := w) (ty := o.type) ht ht' hie hz (k := k) ad n (by omega) (by omega) h63 hby'
            have hexec : (execOp a.eval o).run P w = .ok (.value (.slice (some ⟨w.heap.size, 0, none⟩) n (grownCap w n 0 e))) (w.drew.alloc (.cells (Builtin.zeroCells z.cells n ++ Builtin.zeroCells z.cells (grownCap w n 0 e - n)) e)) := by
              simp [execOp, ho, resolve, invoke, builtin, hxu, hy.int_inv, hrun]
            have hge := grownCap_ge w n 0 e
            have hcm : grownCap w n 0 e ≤ maxLen := grownCap_le_maxLen w n 0 e (by simp only [maxLen]; omega)
            obtain ⟨hwd, hFd⟩ := hw.drew
            have hz1 : (cvl z).length = ie.size := by simp [cvl, b1]
            obtain ⟨g1, g2, g3⟩ := freshAlloc hwd site (.cells (Builtin.zeroCells z.cells n ++ Builtin.zeroCells z.cells (grownCap w n 0 e - n)) e) (.row ((mem site).ver + 1) e ie.size n (fun _ => mkElt (cvl z))) (grownCap w n 0 e) rfl (fun F' bl' mem' _ _ => by
              refine rowOO (w := w.drew) b2 hge hcm ?_ (fun i hi => ?_)
              · simp only [Array.size_append, size_zeroCells, b1, ← Nat.add_mul]
                congr 1
                omega
              rw [mkElt_cvl]
              refine ⟨hz1, fun j hj => ?_⟩
              have hlt := cells_le hi (n := 1) (show j + 1 ≤ ie.size by omega)
              rw [getD_zero2 _ _ _ _ (by omega) (by rw [b1]; omega), b1]
              have hm : (i * ie.size + j) % ie.size = j := by rw [Nat.mul_comm, Nat.mul_add_mod]; exact Nat.mod_eq_of_lt hj
              rw [hm]
              have : (cvl z).getD j .undef = cvs (z.cells.getD j undef) := by simp [cvl, List.getD_eq_getElem?_getD, b1, hj]
              rw [this]
              exact FV.cvs _)
            exact ⟨_, _, _, .inl hexec, g1, VV.new_sl rfl, fun b hb => g2 b (hFd b hb).1, g3⟩
        · cases hc
      · cases hc
    · cases hc
  · rename_i x t
    split at hc
    · rename_i e ht
      split at hc
      · rename_i ie hie
        split at hc
        · rename_i z hz
          generalize hb : (Nat.beq z.cells.size 1 && (cvl z).all AV.isCell) = bb at hc
          cases bb with
          | false => cases hc
          | true =>
            simp only [Bool.and_eq_true] at hb
            cases hc
            exact clrSound ht hie hz (Nat.eq_of_beq_eq_true hb.1) hb.2 hw (VV.opd hv x) (fun u w' hr => by simp [execOp, ho, resolve, invoke, builtin, hr]) hs h
        · cases hc
      · cases hc
    · cases hc
  · cases hc

theorem aggInts_cvs {F : Nat → Prop} : ∀ {ks : List IntKind} {vs : List Value}, aggInts ks vs → ∀ j, j < vs.length → FV w F (vs.getD j undef) ((vs.map cvs).getD j .undef)
  | [], [], _, j, hj => by simp at hj
  | [], _ :: _, h, _, _ => by simp [aggInts] at h
  | _ :: _, [], h, _, _ => by simp [aggInts] at h
  | k :: ks, x :: r, h, j, hj => by
    cases x <;> simp only [aggInts] at h
    cases j with
    | zero => exact .int _ _
    | succ j => exact aggInts_cvs h.2 j (by simpa using hj)
theorem isK_cv {F : Nat → Prop} {d : MK} {v : Value} (h : d.isK v) : FV w F v (cv v) := by
  cases d <;> cases v <;> simp only [MK.isK] at h
  · exact .str _
  · exact .int _ _
  · rename_i ks vs
    refine .agg _ _ (by simp) fun j hj => ?_
    have := aggInts_cvs (w := w) (F := F) h j (by simpa using hj)
    simpa using this
theorem elA_fv {F : Nat → Prop} (k : Option IntKind) (n : Int) : FV w F (elV k n) (elA k n) := by
  cases k
  · exact .bool _
  · exact .int _ _
theorem updL_self (id : Nat) (bl : Nat → Loc) : updL id (bl id) bl = bl := by
  funext j
  by_cases h : j = id
  · subst h; exact updL_same _ _ _
  · exact updL_ne h _ _
theorem next_sound {id ver : Nat} {d : MK} {k : Option IntKind} {p : Value → Bool} {g : Value → Int} {cur : Option Value} {u : Value} (hw : WS X Y w0 w bl mem) (hm : mem id = .iter ver d k p g cur) (hx : VV w (Fr X w bl mem) bl mem u (.it id ver)) (ty : TypeId) :
    ((∀ key, p key = false) ∧ (Instr.next u false ty).run P w = .ok (.tuple #[.bool false]) w) ∨
    ∃ key w', p key = true ∧ (∃ kv, (Instr.next u false ty).run P w = .ok (.tuple #[.bool true, key, kv]) w') ∧
      WS X Y w0 w' bl (Mem.set id (.iter ver d k (fun q => bif keyEq q key then false else p q) g (some key)) mem) ∧
      (∀ b, Fr X w bl mem b → Fr X w' bl (Mem.set id (.iter ver d k (fun q => bif keyEq q key then false else p q) g (some key)) mem) b ∧ w'.heap[b]? = w.heap[b]?) ∧
      Later mem (Mem.set id (.iter ver d k (fun q => bif keyEq q key then false else p q) g (some key)) mem) bl bl := by
  obtain ⟨_, _, hinv⟩ := hx.it_inv
  obtain ⟨b, c, hb, rfl⟩ := hinv _ _ _ _ _ hm
  have hob := hw.obj id
  rw [hm, hb] at hob
  obtain ⟨b', c', bm, es, clock, seen, hl, hh, hFb, hmh, r1, r2, r3, r4⟩ := hob
  cases hl
  have hst := (MapKept.stamped_iff es clock).1 r1
  rcases run_next_at (P := P) w ty b bm clock clock seen es clock hh hmh hst.1 (Nat.le_refl _) with ⟨h0, hrun⟩ | ⟨e, he, w1, hal, hrun⟩
  · refine .inl ⟨fun key => ?_, hrun⟩
    cases hp : p key with
    | false => rfl
    | true =>
      obtain ⟨x, hx, rfl⟩ := r3 key hp
      rw [(r2 x hx).2.2, all_seen es seen h0 x hx] at hp
      cases hp
  · obtain ⟨hem, hes⟩ := mem_left he
    refine .inr ⟨e.key, _, by rw [(r2 e hem).2.2, hes]; rfl, ⟨_, hrun⟩, ?_⟩
    have hlive : (mem id).live = true := by rw [hm]; rfl
    have hbsz := (hw.own id b c hlive hb).2.2
    have hh1 : w1.heap = w.heap := by rcases hal with rfl | rfl <;> rfl
    have hr1 : w1.heap[b]? = some (.mapIter (some bm) clock seen clock) := by rw [hh1]; exact hh
    obtain ⟨s1, s2⟩ := MapKept.heap_set (w := w1) (o' := .mapIter (some bm) clock (seen.push e.born) clock) hr1
    have hne : bm ≠ b := fun e1 => by rw [e1, hh] at hmh; cases hmh
    have hu := WS.upd (w' := ChangeMaps.setBlock w1 b (.mapIter (some bm) clock (seen.push e.born) clock)) hw id (.iter ver d k (fun q => bif keyEq q e.key then false else p q) g (some e.key)) (.blk b c) (by rw [hm]; exact Nat.le_refl _) (fun _ => by rw [hm]; exact ⟨trivial, hb.symm⟩)
      (by rcases hal with rfl | rfl <;> rfl) (by rcases hal with rfl | rfl <;> rfl) (by rcases hal with rfl | rfl <;> rfl) (by rcases hal with rfl | rfl <;> simp [ChangeMaps.setBlock])
      (fun b2 _ hne => (s2 b2 fun e => hne c hlive (by rw [e]; exact hb)).trans (by rw [hh1]))
      (fun b2 c2 _ hl2 => by cases hl2; exact ⟨.inr ⟨hlive, c, hb⟩, by rcases hal with rfl | rfl <;> simpa [ChangeMaps.setBlock] using hbsz⟩)
      (fun h1 _ => ⟨b, c, bm, es, clock, seen.push e.born, rfl, s1, (h1 bm hFb).1, by rw [(h1 bm hFb).2]; exact hmh, r1, fun x hx => ⟨(r2 x hx).1, (r2 x hx).2.1, by
          rw [contains_push]
          show (bif keyEq x.key e.key then false else p x.key) = _
          rw [(r2 x hx).2.2]
          cases hk : keyEq x.key e.key with
          | true =>
            have hxe := entry_eq_of_key hst.2.2 hx hem (keyEq_true hk)
            subst hxe
            simp
          | false =>
            have hb2 : (x.born == e.born) = false := by
              cases hq : x.born == e.born with
              | false => rfl
              | true =>
                have hxe := born_inj hst.2.1 hx hem (beq_iff_eq.1 hq)
                subst hxe
                rw [keyEq_self (r2 x hx).1] at hk
                cases hk
            rw [hb2]
            simp⟩,
        fun key hp => by
          have hp : (bif keyEq key e.key then false else p key) = true := hp
          cases hk : keyEq key e.key with
          | true => rw [hk] at hp; cases hp
          | false => rw [hk] at hp; exact r3 key hp, fun key hk => ⟨e, hem, by cases hk; rfl, seen, rfl⟩⟩)
    rw [← hb, updL_self] at hu
    exact hu

theorem eff2Sound {i : EI} {c : Prop} {v : AV} {mem' : Mem} (hc : compE2 P site o.op = some i) (hw : WS X Y w0 w bl mem) (hv : ∀ k, VV w (Fr X w bl mem) bl mem (a.tmps.getD k undef) (env k))
    (hs : i.run env mem = some (c, v, mem')) (h : c) : Eff P X Y w0 w bl mem a o v mem' := by
  have hop := fun x => VV.opd hv x
  cases ho : o.op with
  | makeMap t r =>
    rw [ho] at hc
    cases r with
    | some r => simp [compE2] at hc
    | none =>
      simp only [compE2] at hc
      split at hc
      · split at hc <;> cases hc
        rename_i d k hd hk
        cases hs
        obtain ⟨g1, g2, g3⟩ := freshAlloc hw site (.map #[] 0) (.map ((mem site).ver + 1) d k (fun _ => false) (fun _ => 0)) 0 rfl (fun F' bl' mem' h1 h2 => ⟨_, _, #[], 0, rfl, heap_alloc_new w _, MapKept.stamped_empty 0, by simp, by simp, fun key hk0 => (by cases hk0), fun _ _ => rfl⟩)
        refine ⟨.map (some w.heap.size), _, _, .inl ?_, g1, ?_, g2, g3⟩
        · simp [execOp, ho, RowKit.run_makeMap]
        · exact .mp _ site _ (by rw [set_same]; exact Nat.le_refl _) (fun d k p g _ => ⟨w.heap.size, 0, updL_same _ _ _, rfl⟩)
      · cases hc
  | mapUpdate t m key x =>
    rw [ho] at hc
    simp only [compE2] at hc
    split at hc
    · rename_i kt et hut
      split at hc <;> cases hc
      rename_i d k hd hk
      simp only [EI.run] at hs
      split at hs
      · rename_i id ver kv n e1 e2 e3
        split at hs <;> cases hs
        rename_i ver' d' k' p g hm
        obtain ⟨rfl, rfl, rfl⟩ := h
        have hx := hop m
        rw [e1] at hx
        obtain ⟨_, _, hinv⟩ := hx.mp_inv
        obtain ⟨b, c, hb, hu⟩ := hinv _ _ _ _ hm
        have hob := hw.obj id
        rw [hm, hb] at hob
        obtain ⟨b', c', es, clock, hl, hh, hrep⟩ := hob
        cases hl
        obtain ⟨hkv, hisk⟩ := keyV_sound (hop key) e2
        have hel := elN_sound (hop x) e3
        have hlive : (mem id).live = true := by rw [hm]; rfl
        have hbsz := (hw.own id b c hlive hb).2.2
        have hck : (Instr.checkKey false 10000 kt kv).run P w = .ok () w := run_check hd hisk _
        have base : ∃ es' clock', (Instr.mapUpdate t (a.eval m) (a.eval key) (a.eval x)).run P w = .ok () { w with heap := w.heap.setIfInBounds b (.map es' clock') } ∧ MapRep es' clock' d' k' (fun q => bif keyEq q kv then true else p q) (fun q => bif keyEq q kv then n else g q) := by
          rw [hu, hkv, hel]
          rcases find_in (P := P) (w := w) hd hrep hisk with ⟨h1, h2, h3⟩ | ⟨j, e, h1, h2, h3, h4, h5⟩
          · exact ⟨_, _, by simp [Instr.mapUpdate, run_underlying hut, MapKept.run_getObj_map hh, hck, h1, MapKept.run_setObj_map _ hh], mapRep_push hrep hisk n h3⟩
          · have hj : es[j]? = some e := by simpa using h2
            exact ⟨_, _, by simp [Instr.mapUpdate, run_underlying hut, MapKept.run_getObj_map hh, hck, h1, hj, h3, stays hisk, MapKept.run_setObj_map _ hh], mapRep_modify hrep hisk n h2 h3⟩
        obtain ⟨es', clock', hrun, hrep'⟩ := base
        obtain ⟨s1, s2⟩ := MapKept.heap_set (w := w) (o' := .map es' clock') hh
        obtain ⟨g1, g2, g3⟩ := WS.upd (w' := { w with heap := w.heap.setIfInBounds b (.map es' clock') }) hw id (.map ver d' k' (fun q => bif keyEq q kv then true else p q) (fun q => bif keyEq q kv then n else g q)) (.blk b c) (by rw [hm]; exact Nat.le_refl _) (fun _ => by rw [hm]; exact ⟨⟨rfl, rfl⟩, hb.symm⟩) rfl rfl rfl (by simp)
          (fun b2 _ hne => s2 b2 fun e => hne c hlive (by rw [e]; exact hb))
          (fun b2 c2 _ hl2 => by cases hl2; exact ⟨.inr ⟨hlive, c, hb⟩, by simpa using hbsz⟩)
          (fun _ _ => ⟨b, c, es', clock', rfl, s1, hrep'⟩)
        refine ⟨undef, _, _, .inr ⟨?_, rfl⟩, g1, .fz (.undef _), g2, g3⟩
        simp [execOp, ho, hrun]
      · cases hs
    · cases hc
  | insert t m key x =>
    rw [ho] at hc
    simp only [compE2] at hc
    split at hc
    · rename_i kt et hut
      split at hc <;> cases hc
      rename_i d k hd hk
      simp only [EI.run] at hs
      split at hs
      · rename_i id ver kv n e1 e2 e3
        split at hs <;> cases hs
        rename_i ver' d' k' p g hm
        obtain ⟨rfl, rfl, rfl⟩ := h
        have hx := hop m
        rw [e1] at hx
        obtain ⟨_, _, hinv⟩ := hx.mp_inv
        obtain ⟨b, c, hb, hu⟩ := hinv _ _ _ _ hm
        have hob := hw.obj id
        rw [hm, hb] at hob
        obtain ⟨b', c', es, clock, hl, hh, hrep⟩ := hob
        cases hl
        obtain ⟨hkv, hisk⟩ := keyV_sound (hop key) e2
        have hel := elN_sound (hop x) e3
        have hlive : (mem id).live = true := by rw [hm]; rfl
        have hbsz := (hw.own id b c hlive hb).2.2
        have hck : (Instr.checkKey false 10000 kt kv).run P w = .ok () w := run_check hd hisk _
        have base : ∃ es' clock', (Instr.mapUpdate t (a.eval m) (a.eval key) (a.eval x)).run P w = .ok () { w with heap := w.heap.setIfInBounds b (.map es' clock') } ∧ MapRep es' clock' d' k' (fun q => bif keyEq q kv then true else p q) (fun q => bif keyEq q kv then n else g q) := by
          rw [hu, hkv, hel]
          rcases find_in (P := P) (w := w) hd hrep hisk with ⟨h1, h2, h3⟩ | ⟨j, e, h1, h2, h3, h4, h5⟩
          · exact ⟨_, _, by simp [Instr.mapUpdate, run_underlying hut, MapKept.run_getObj_map hh, hck, h1, MapKept.run_setObj_map _ hh], mapRep_push hrep hisk n h3⟩
          · have hj : es[j]? = some e := by simpa using h2
            exact ⟨_, _, by simp [Instr.mapUpdate, run_underlying hut, MapKept.run_getObj_map hh, hck, h1, hj, h3, stays hisk, MapKept.run_setObj_map _ hh], mapRep_modify hrep hisk n h2 h3⟩
        obtain ⟨es', clock', hrun, hrep'⟩ := base
        obtain ⟨s1, s2⟩ := MapKept.heap_set (w := w) (o' := .map es' clock') hh
        obtain ⟨g1, g2, g3⟩ := WS.upd (w' := { w with heap := w.heap.setIfInBounds b (.map es' clock') }) hw id (.map ver d' k' (fun q => bif keyEq q kv then true else p q) (fun q => bif keyEq q kv then n else g q)) (.blk b c) (by rw [hm]; exact Nat.le_refl _) (fun _ => by rw [hm]; exact ⟨⟨rfl, rfl⟩, hb.symm⟩) rfl rfl rfl (by simp)
          (fun b2 _ hne => s2 b2 fun e => hne c hlive (by rw [e]; exact hb))
          (fun b2 c2 _ hl2 => by cases hl2; exact ⟨.inr ⟨hlive, c, hb⟩, by simpa using hbsz⟩)
          (fun _ _ => ⟨b, c, es', clock', rfl, s1, hrep'⟩)
        refine ⟨undef, _, _, .inr ⟨?_, rfl⟩, g1, .fz (.undef _), g2, g3⟩
        simp [execOp, ho, hrun]
      · cases hs
    · cases hc
  | convert s d x =>
    rw [ho] at hc
    simp only [compE2] at hc
    split at hc
    · rename_i e h1 h2
      split at hc <;> cases hc
      rename_i h3
      simp only [EI.run] at hs
      split at hs <;> cases hs
      rename_i str e1
      have hx := hop x
      rw [e1] at hx
      have hrun := run_bytes_of_string (P := P) w s d e str h1 h2 h3
      have hge := grownCap_ge w str.size 0 e
      generalize grownCap w str.size 0 e = cap at hrun hge
      obtain ⟨q1, q2⟩ := hw.drew
      obtain ⟨g1, g2⟩ := WS.junk q1 (.cells (bytesRow str cap) e ((bytesRow str cap).size, (bytesRow str cap).size + 1))
      refine ⟨.slice (some ⟨w.heap.size, 0, none⟩) str.size cap, _, bl, .inl ?_, g1, ?_, fun b hb => ⟨(g2 b (q2 b hb).1).1, by rw [(g2 b (q2 b hb).1).2]; rfl⟩, Later.refl _ _⟩
      · simp [execOp, ho, hx.str_inv, hrun]
      · refine .fz ?_
        rcases Nat.eq_zero_or_pos str.size with h0 | h0
        · rw [h0]; exact .fs0 _ _ _
        · have hcap : str.size ≤ cap := hge
          refine .fs ⟨w.heap.size, 0, none⟩ str.size cap 1 _ (fun i j => (bytesRow str cap).getD i undef) ⟨by simp, fun hx => ?_, ?_⟩ hcap (by omega) (fun i hi => rfl) (fun i j hi hj => ?_) (fun i j hi hj => ?_)
          · have h1 : w.heap.size < w0.heap.size := hw.xlt _ hx
            have h2 := hw.size
            omega
          · rintro ⟨k, c, hk1, hk2⟩
            have h1 : w.heap.size < w.heap.size := (hw.own k _ c hk1 hk2).2.2
            omega
          · obtain rfl : j = 0 := by omega
            have hh : (w.drew.alloc (.cells (bytesRow str cap) e ((bytesRow str cap).size, (bytesRow str cap).size + 1))).heap[w.heap.size]? = some (.cells (bytesRow str cap) e ((bytesRow str cap).size, (bytesRow str cap).size + 1)) := heap_alloc_new w.drew _
            rw [add_lit, cell_of_row _ _ _ _ _ _ hh]
            have : i < (bytesRow str cap).size := by rw [bytesRow_size]; omega
            simp [this]
          · obtain rfl : j = 0 := by omega
            have e3 : (bytesRow str cap).getD i undef = .int .u8 ((str.data.toList.getD i 0).toNat : Int) := bytesRow_at hi
            rw [e3]
            exact .int _ _
    · rename_i e h1 h2
      split at hc <;> cases hc
      rename_i h3
      have hx := hop x
      simp only [EI.run] at hs
      split at hs
      · rename_i id ver n e1
        split at hs
        · rename_i ver' e' sz m f hm
          generalize hbb : Nat.beq sz 1 = bb at hs
          cases bb with
          | false => cases hs
          | true =>
            cases hs
            obtain ⟨h4, h5, h6⟩ := h
            obtain rfl := Nat.eq_of_beq_eq_true hbb
            subst h4
            rw [e1] at hx
            obtain ⟨A, n', c', hu, hinv⟩ := hx.sl_inv
            obtain ⟨hle, hu'⟩ := hinv _ _ _ _ hm
            have hob := hw.obj id
            rw [hm] at hob
            obtain ⟨hz, xs, hown, hr⟩ := hob
            cases hloc : bl id with
            | none =>
              rw [hloc] at hown
              rcases hown.2 with ⟨_, g⟩ | ⟨_, _, _, hv', _⟩
              · omega
              · simp [slv] at hv'
            | blk b cc =>
              rw [hloc] at hown hu'
              have hlo : (loadCells ⟨b, 0, none⟩ n).run P w = .ok (((List.range n).map fun i => byteN (f i)).map (Value.int .u8)).toArray w := by
                rw [run_loadCells w ⟨b, 0, none⟩ n (fun j => xs.getD j undef) (fun j hj => by
                  have hlt : j < xs.length := by rw [hown.1]; omega
                  exact hown.cells (g := b) rfl _ _ (by simp [List.getD_eq_getElem?_getD, hlt]))]
                congr 2
                rw [List.map_map]
                refine List.map_congr_left fun j hj => ?_
                have hj := List.mem_range.1 hj
                obtain ⟨q1, q2⟩ := hr j (by omega)
                have q3 := q2 0 (by omega)
                obtain ⟨c2, hc2⟩ := h6 j hj
                rw [hc2] at q3
                have q3' : FV w (Fr X w bl mem) (xs.getD j undef) (.int .u8 c2) := by
                  have e0 : j * 1 + 0 = j := by omega
                  rw [e0] at q3
                  exact q3
                have q4 := (VV.fz (bl := bl) (mem := mem) q3').int_inv
                simp only [Function.comp, hc2, byteN]
                exact q4
              have hrun := run_bytesToString (P := P) w ⟨b, 0, none⟩ n cc _ hlo
              refine ⟨_, w, bl, .inl ?_, hw, .fz (.str (bytesA n f)), fun _ hb => ⟨hb, rfl⟩, Later.refl _ _⟩
              have he := run_convert_bytes_string (P := P) w s d e (some ⟨b, 0, none⟩) n cc h1 h3 h2
              rw [hrun] at he
              have hu2 : a.eval x = .slice (some ⟨b, 0, none⟩) n cc := by rw [hu']; rfl
              simp [execOp, ho, hu2, he, bytesA]
        · cases hs
      · cases hs
    · cases hc
  | slice t x lo hi mx =>
    rw [ho] at hc
    cases lo with
    | some _ => simp [compE2] at hc
    | none =>
    cases hi with
    | some _ => simp [compE2] at hc
    | none =>
    cases mx with
    | some _ => simp [compE2] at hc
    | none =>
    simp only [compE2] at hc
    split at hc
    · rename_i ln e ht
      split at hc <;> cases hc
      rename_i hsz
      have hx := hop x
      simp only [EI.run] at hs
      split at hs
      · rename_i id ver ofs e1
        split at hs
        · rename_i ver' cs hm
          generalize hbb : (Nat.beq ofs 0 && Nat.beq cs.length ln && (cs.all isFz0)) = bb at hs
          cases bb with
          | false => cases hs
          | true =>
            cases hs
            obtain ⟨h4, h5⟩ := h
            simp only [Bool.and_eq_true] at hbb
            obtain rfl := Nat.eq_of_beq_eq_true hbb.1.1
            obtain rfl := Nat.eq_of_beq_eq_true hbb.1.2
            subst h4
            rw [e1] at hx
            obtain ⟨A, hu, hh⟩ := hx.ptr_inv
            obtain ⟨b, c2, hb, hA⟩ := hh cs hm
            have hv : (mem id).ver = ver := by rw [hm]; rfl
            obtain ⟨g1, g2, g3⟩ := WS.upd (w' := w) hw id (.dead (ver + 1)) .none (by rw [hv]; exact Nat.le_succ _) (fun g => by rw [hv] at g; simp only [AO.ver] at g; omega) rfl rfl rfl (Nat.le_refl _) (fun _ _ _ => rfl) (fun b c h _ => by cases h) (fun _ _ => trivial)
            have hob := hw.obj id
            rw [hm] at hob
            obtain ⟨b', c3, arr, e', hl', hg, hsize, hr⟩ := hob
            rw [hb] at hl'
            cases hl'
            obtain ⟨ie, hie, hsi⟩ := Option.map_eq_some_iff.1 hsz
            refine ⟨.slice (some ⟨b, 0, none⟩) cs.length cs.length, w, _, .inl ?_, g1, .fz ?_, fun b hb => ⟨(g2 b hb).1, rfl⟩, g3⟩
            · simp [execOp, ho, hA, Instr.sliceAt, run_underlying ht, Instr.sureAddr, Instr.sliceBounds, sizeOf, typeInfo, hie, hsi, add_lit]
            · have hd : (mem id).live = true := by rw [hm]; rfl
              have hbo := hw.own id b c2 hd hb
              have hfz := List.all_eq_true.1 hbb.2
              refine .fs ⟨b, 0, none⟩ cs.length cs.length 1 _ (fun i j => arr.getD i undef) ⟨hbo.2.2, hbo.1, ?_⟩ (Nat.le_refl _) (by omega) (fun i hi => h5 i hi) (fun i j hi hj => ?_) (fun i j hi hj => ?_)
              · rintro ⟨i, c', hi, hb'⟩
                by_cases ei : i = id
                · rw [ei, set_same] at hi; cases hi
                · rw [set_ne ei] at hi
                  rw [updL_ne ei] at hb'
                  exact ei (hw.inj i id b c' c2 hi hd hb' hb)
              · obtain rfl : j = 0 := by omega
                have hlt : i < arr.size := by omega
                have e0 : 0 + (i * 1 + 0) = i := by omega
                rw [add_lit, cell_of_row _ _ _ _ _ _ hg, e0, Array.getElem?_eq_getElem hlt, Array.getD_eq_getD_getElem?, Array.getElem?_eq_getElem hlt]
                rfl
              · obtain rfl : j = 0 := by omega
                have q1 : isFz0 (cs.getD i .undef) = true := by
                  refine hfz _ ?_
                  rw [List.getD_eq_getElem?_getD, List.getElem?_eq_getElem hi]
                  exact List.getElem_mem hi
                have q2 := ((hr i hi).toFz q1).mono g2
                have q3 : (cs.getD i .undef).cells.getD 0 .undef = cs.getD i .undef := by
                  cases hq : cs.getD i .undef <;> first | rfl | (rw [hq] at q1; simp [isFz0] at q1)
                rw [q3]
                exact q2
        · cases hs
      · cases hs
    · cases hc
  | range t x =>
    rw [ho] at hc
    simp only [compE2] at hc
    split at hc <;> cases hc
    rename_i kt et hut
    simp only [EI.run] at hs
    split at hs
    · rename_i id ver e1
      split at hs <;> cases hs
      rename_i ver' d' k' p g hm
      obtain ⟨rfl, hne⟩ := h
      have hx := hop x
      rw [e1] at hx
      obtain ⟨_, _, hinv⟩ := hx.mp_inv
      obtain ⟨b, c, hb, hu⟩ := hinv _ _ _ _ hm
      have hob := hw.obj id
      rw [hm, hb] at hob
      obtain ⟨b', c', es, clock, hl, hh, hrep⟩ := hob
      cases hl
      have hv0 : (mem id).ver = ver := by rw [hm]; rfl
      have hd : (mem id).live = true := by rw [hm]; rfl
      have hbo := hw.own id b c hd hb
      obtain ⟨g1, g2, g3⟩ := WS.upd (w' := w) hw id (.dead (ver + 1)) .none (by rw [hv0]; exact Nat.le_succ _) (fun g => by rw [hv0] at g; simp only [AO.ver] at g; omega) rfl rfl rfl (Nat.le_refl _) (fun _ _ _ => rfl) (fun b c h _ => by cases h) (fun _ _ => trivial)
      have hFb : Fr X w (updL id .none bl) (Mem.set id (.dead (ver + 1)) mem) b := ⟨hbo.2.2, hbo.1, by
        rintro ⟨i, c', hi, hb'⟩
        by_cases ei : i = id
        · rw [ei, set_same] at hi; cases hi
        · rw [set_ne ei] at hi
          rw [updL_ne ei] at hb'
          exact ei (hw.inj i id b c' c hi hd hb' hb)⟩
      have hms : (Mem.set id (.dead (ver + 1)) mem site).ver = (mem site).ver := by rw [set_ne hne]
      obtain ⟨q1, q2, q3⟩ := freshAlloc g1 site (.mapIter (some b) clock #[] clock) (.iter ((mem site).ver + 1) d' k' p g none) 0 (by rw [hms]; rfl) (fun F' bl' mem' h1 h2 => ⟨_, _, b, es, clock, #[], rfl, heap_alloc_new w _, (h1 b hFb).1, by rw [(h1 b hFb).2]; exact hh, by
        obtain ⟨r1, r2, r3, r4, r5⟩ := hrep
        exact ⟨r1, fun x hx => ⟨r2 x hx, (r3 x hx).2, by rw [(r3 x hx).1]; simp⟩, r4, fun key hk => by cases hk⟩⟩)
      refine ⟨.pointer (some ⟨w.heap.size, 0, none⟩), _, _, .inl ?_, q1, ?_, fun b hb => ⟨(q2 b (g2 b hb).1).1, (q2 b (g2 b hb).1).2⟩, g3.trans q3⟩
      · simp [execOp, ho, hu, run_range_map w t kt et b es clock hut hh]
      · exact .it _ site _ (by rw [set_same]; exact Nat.le_refl _) (fun d k p g cur _ => ⟨w.heap.size, 0, updL_same _ _ _, rfl⟩)
    · cases hs
  | entry x =>
    rw [ho] at hc
    simp only [compE2, Option.some.injEq] at hc
    subst hc
    simp only [EI.run] at hs
    split at hs
    · rename_i id ver e1
      split at hs <;> cases hs
      rename_i ver' d' k' p g key hm
      obtain rfl := h
      have hx := hop x
      rw [e1] at hx
      obtain ⟨_, _, hinv⟩ := hx.it_inv
      obtain ⟨b, c, hb, hu⟩ := hinv _ _ _ _ _ hm
      have hob := hw.obj id
      rw [hm, hb] at hob
      obtain ⟨b', c', bm, es, clock, seen, hl, hh, hFb, hmh, r1, r2, r3, r4⟩ := hob
      cases hl
      obtain ⟨e, he, rfl, s, rfl⟩ := r4 key rfl
      refine ⟨.tuple #[e.key, e.val], w, bl, .inl ?_, hw, ?_, fun _ hb => ⟨hb, rfl⟩, Later.refl _ _⟩
      · simp [execOp, ho, hu, run_entry_at w b bm clock s es clock e hh hmh he ((MapKept.stamped_iff es clock).1 r1).2.1]
      · refine .fz (.tup _ _ rfl fun j hj => ?_)
        have hj2 : j < 2 := hj
        rcases j with _ | _ | j
        · exact isK_cv (r2 e he).1
        · show FV w _ e.val _
          rw [(r2 e he).2.1]
          exact elA_fv _ _
        · omega
    · cases hs
  | call cl => exact appzSound ho hc hw hv hs h
  | _ => rw [ho] at hc; simp [compE2] at hc

theorem run_equal_slice {t e : TypeId} (ht : P.underlying t = some (.slice e)) (ad : Option Addr) (n c : Nat) : (Op.equal t (.slice ad n c) (.slice none 0 0)).run P w = .ok ad.isNone w := by
  have key : ∀ d, (Op.equalIn (d + 1) t (.slice ad n c) (.slice none 0 0)).run P w = .ok ad.isNone w := fun d => by cases ad <;> simp [Op.equalIn, run_underlying ht]
  exact key 9999
theorem run_eqGuard_slice (op : BinOp) (t : TypeId) (x y : Operand) (ad bd : Option Addr) (n c m d : Nat) : (eqGuard op t x y (.slice ad n c) (.slice bd m d)).run P w = .ok () w := by
  unfold eqGuard
  cases op <;> simp
theorem nilEql {F : Nat → Prop} {t e : TypeId} {x : Operand} {yt : TypeId} (ho : o.op = .binOp .eql t x (.const (.slice none 0 0)) yt) (ht : P.underlying t = some (.slice e)) {ad : Option Addr} {n c : Nat} (hu : a.eval x = .slice ad n c) : Yld P w F bl mem a o (.bool ad.isNone) := by
  refine Yld.of ho (do eqGuard .eql t x (.const (.slice none 0 0)) (a.eval x) (a.eval (.const (.slice none 0 0))); binOp .eql t (a.eval x) (a.eval (.const (.slice none 0 0)))) rfl ?_ (.fz (.bool _))
  rw [hu, show a.eval (.const (.slice none 0 0)) = .slice none 0 0 from rfl, Sem.run_bind, run_eqGuard_slice]
  simp only [binOp, Sem.run_bind, run_equal_slice ht, Result.andThen_ok]
  rfl
theorem nilNeq {F : Nat → Prop} {t e : TypeId} {x : Operand} {yt : TypeId} (ho : o.op = .binOp .neq t x (.const (.slice none 0 0)) yt) (ht : P.underlying t = some (.slice e)) {ad : Option Addr} {n c : Nat} (hu : a.eval x = .slice ad n c) : Yld P w F bl mem a o (.bool (!ad.isNone)) := by
  refine Yld.of ho (do eqGuard .neq t x (.const (.slice none 0 0)) (a.eval x) (a.eval (.const (.slice none 0 0))); binOp .neq t (a.eval x) (a.eval (.const (.slice none 0 0)))) rfl ?_ (.fz (.bool _))
  rw [hu, show a.eval (.const (.slice none 0 0)) = .slice none 0 0 from rfl, Sem.run_bind, run_eqGuard_slice]
  simp only [binOp, Sem.run_bind, run_equal_slice ht, Result.andThen_ok]
  rfl

theorem effXSound {i : EI} {c : Prop} {v : AV} {mem' : Mem} (hc : compEX P site o.op = some i) (hw : WS X Y w0 w bl mem) (hv : ∀ k, VV w (Fr X w bl mem) bl mem (a.tmps.getD k undef) (env k))
    (hs : i.run env mem = some (c, v, mem')) (h : c) : Eff P X Y w0 w bl mem a o v mem' := by
  unfold compEX at hc
  split at hc
  · rename_i j hj
    cases hc
    exact effSound hj hw hv hs h
  · exact eff2Sound hc hw hv hs h
end
end Go.Ab
