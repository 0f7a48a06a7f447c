/- Walks: the names that a stream makes. -/
import Derived.Test.YtodncnlnadgkhacSaMkW
set_option linter.unusedSimpArgs false
set_option linter.unusedVariables false
namespace Go.Ab
open Go
def b7_0 (b : Nat) : AC := (.seq (.ops [⟨(some 10), none, (.v (.bin .lss (.t 9) (.t 8)))⟩]) (.seq (.cond (.t 10) .skip (.exit 0)) (.seq (.block 1 (.seq (.ops [⟨(some 11), none, (.v (.mv (.t 9)))⟩, ⟨(some 6), none, (.v (.mv (.t 11)))⟩]) (.seq (.ops [⟨(some 12), none, (.v (.mv (.t 0)))⟩, ⟨(some 13), none, (.call (.c (.fn 39 [])) [(.t 12), (.c (.int .i64 26))])⟩, ⟨(some 14), none, (.v (.bin .add (.c (.int .i64 97)) (.t 13)))⟩, ⟨(some 15), none, (.v (.conv .u8 (.t 14)))⟩, ⟨(some 16), none, (.v (.mv (.t 6)))⟩, ⟨(some 17), none, (.v (.bin .rem (.t 16) (.c (.int .i64 26))))⟩, ⟨(some 18), none, (.v (.bin .add (.c (.int .i64 97)) (.t 17)))⟩, ⟨(some 19), none, (.v (.conv .u8 (.t 18)))⟩, ⟨(some 20), none, (.v (.mv (.t 6)))⟩, ⟨(some 21), none, (.v (.bin .quo (.t 20) (.c (.int .i64 26))))⟩, ⟨(some 22), none, (.v (.bin .rem (.t 21) (.c (.int .i64 26))))⟩, ⟨(some 23), none, (.v (.bin .add (.c (.int .i64 97)) (.t 22)))⟩, ⟨(some 24), none, (.v (.conv .u8 (.t 23)))⟩, ⟨(some 25), none, (.e (.lit (b + 25) 5 1 3 [(.int .u8 0)] [(0, (.t 15)), (1, (.t 19)), (2, (.t 24))]))⟩, ⟨(some 26), none, (.e (.bstr (.t 25)))⟩, ⟨(some 7), none, (.v (.mv (.t 26)))⟩]) (.seq (.seq (.ops [⟨(some 27), none, (.v (.mv (.t 0)))⟩, ⟨(some 28), none, (.call (.c (.fn 39 [])) [(.t 27), (.c (.int .i64 5))])⟩]) (.block 2 (.seq (.ops [⟨(some 30), none, (.v (.bin .eql (.t 28) (.c (.int .i64 0))))⟩, ⟨(some 29), none, (.v (.mv (.t 30)))⟩]) (.cond (.t 29) (.ops [⟨(some 31), none, (.v (.mv (.t 7)))⟩, ⟨(some 32), none, (.v (.mv (.t 0)))⟩, ⟨(some 33), none, (.call (.c (.fn 39 [])) [(.t 32), (.c (.int .i64 10))])⟩, ⟨(some 34), none, (.v (.bin .add (.c (.int .i64 48)) (.t 33)))⟩, ⟨(some 35), none, (.v (.conv .u8 (.t 34)))⟩, ⟨(some 36), none, (.e (.lit (b + 36) 5 1 1 [(.int .u8 0)] [(0, (.t 35))]))⟩, ⟨(some 37), none, (.e (.bstr (.t 36)))⟩, ⟨(some 38), none, (.v (.sbin .add (.c (.str ⟨#[91]⟩)) (.t 37)))⟩, ⟨(some 39), none, (.v (.sbin .add (.t 38) (.c (.str ⟨#[93]⟩))))⟩, ⟨(some 40), none, (.v (.sbin .add (.t 31) (.t 39)))⟩, ⟨(some 7), none, (.v (.mv (.t 40)))⟩]) (.seq (.ops [⟨(some 42), none, (.v (.bin .eql (.t 28) (.c (.int .i64 1))))⟩, ⟨(some 41), none, (.v (.mv (.t 42)))⟩]) (.cond (.t 41) (.ops [⟨(some 43), none, (.v (.mv (.t 7)))⟩, ⟨(some 44), none, (.v (.sbin .add (.c (.str ⟨#[109, 46]⟩)) (.t 43)))⟩, ⟨(some 7), none, (.v (.mv (.t 44)))⟩]) .skip)))))) (.ops [⟨(some 45), none, (.v (.mv (.t 5)))⟩, ⟨(some 46), none, (.v (.mv (.t 7)))⟩, ⟨(some 47), none, (.e (.lit (b + 47) 9 1 1 [(.str ⟨#[]⟩)] [(0, (.t 46))]))⟩, ⟨(some 48), none, (.e (.app (b + 48) 9 1 16 (.t 45) (.t 47)))⟩, ⟨(some 5), none, (.v (.mv (.t 48)))⟩]))))) (.ops [⟨(some 49), none, (.v (.bin .add (.t 9) (.c (.int .i64 1))))⟩, ⟨(some 9), none, (.v (.mv (.t 49)))⟩]))))
def b7 (b : Nat) : AC := (.seq (.ops [⟨(some 4), none, (.v (.mv (.c .cap0)))⟩]) (.seq (.ops [⟨(some 5), none, (.v (.mv (.c .cap0)))⟩]) (.seq (.seq (.ops [⟨(some 8), none, (.v (.mv (.t 1)))⟩, ⟨(some 9), none, (.v (.mv (.c (.int .i64 0))))⟩]) (.block 0 (.loop (b7_0 b)))) (.seq (.ops [⟨(some 50), none, (.v (.mv (.t 5)))⟩, ⟨(some 4), none, (.v (.mv (.t 50)))⟩]) .ret))))
def q7 : List AI := [(.mv (.t 4))]
theorem g7 (b : Nat) : Fn PP 7 2 (b7 b) q7 := Fn.ofB b (fn := Go.Proofs.Try.f7) (by kernel_rfl) (by kernel_rfl) (by kernel_rfl)
def wdB (c i : Nat) : List UInt8 := [UInt8.ofNat (97 + c), UInt8.ofNat (97 + i % 26), UInt8.ofNat (97 + i / 26 % 26)]
/-- The i-th name. -/
def Wd (i : Nat) (s : ByteArray) : Prop := ∃ c d : Nat, c < 26 ∧ d < 10 ∧ (s.data.toList = wdB c i ∨ s.data.toList = wdB c i ++ [91, UInt8.ofNat (48 + d), 93] ∨ s.data.toList = 109 :: 46 :: wdB c i)
theorem ofNat_inj {a b : Nat} (ha : a < 256) (hb : b < 256) (h : UInt8.ofNat a = UInt8.ofNat b) : a = b := by
  have := congrArg UInt8.toNat h
  simpa [UInt8.toNat_ofNat', Nat.mod_eq_of_lt ha, Nat.mod_eq_of_lt hb] using this
theorem wdB_inj {c i c' j : Nat} (hc : c < 26) (hc' : c' < 26) (hi : i < 676) (hj : j < 676) (h : wdB c i = wdB c' j) : i = j := by
  simp only [wdB, List.cons.injEq, and_true] at h
  have h1 := ofNat_inj (by omega) (by omega) h.2.1
  have h2 := ofNat_inj (by omega) (by omega) h.2.2
  omega
theorem Wd.inj {i j : Nat} {s : ByteArray} (hi : i < 676) (hj : j < 676) (h : Wd i s) (k : Wd j s) : i = j := by
  obtain ⟨c, d, hc, hd, h⟩ := h
  obtain ⟨c', d', hc', hd', k⟩ := k
  have l : ∀ c i, (wdB c i).length = 3 := fun _ _ => rfl
  rcases h with h | h | h <;> rcases k with k | k | k <;> rw [h] at k
  · exact wdB_inj hc hc' hi hj k
  · have := congrArg List.length k; simp [l] at this
  · have := congrArg List.length k; simp [l] at this
  · have := congrArg List.length k; simp [l] at this
  · exact wdB_inj hc hc' hi hj (List.append_inj_left k (by rw [l, l]))
  · have := congrArg List.length k; simp [l] at this
  · have := congrArg List.length k; simp [l] at this
  · have := congrArg List.length k; simp [l] at this
  · simp only [List.cons.injEq, true_and] at k; exact wdB_inj hc hc' hi hj k
theorem Wd.ok {i : Nat} {s : ByteArray} (h : Wd i s) : nameOk s := by
  obtain ⟨c, d, hc, hd, h⟩ := h
  have hs : s.size = s.data.toList.length := Array.length_toList.symm
  have key : ∀ (l : List UInt8), s.data.toList = l → 1 ≤ l.length → l.length ≤ 128 → (∀ x ∈ l, 33 ≤ x.toNat ∧ x.toNat ≤ 126) → nameOk s := fun l hl h1 h2 h3 => by
    refine ⟨by rw [hs, hl]; exact h1, by rw [hs, hl]; exact h2, fun i hi => ?_⟩
    rw [hs, hl] at hi
    unfold byteAt byteOk
    rw [hl, List.getD_eq_getElem?_getD, List.getElem?_eq_getElem hi]
    have := h3 _ (List.getElem_mem hi)
    simp only [Option.getD_some]
    omega
  have hb : ∀ x ∈ wdB c i, 33 ≤ x.toNat ∧ x.toNat ≤ 126 := fun x hx => by
    simp only [wdB, List.mem_cons, List.not_mem_nil, or_false] at hx
    rcases hx with rfl | rfl | rfl <;> rw [UInt8.toNat_ofNat', Nat.mod_eq_of_lt (by omega)] <;> omega
  have hd' : ∀ x ∈ [91, UInt8.ofNat (48 + d), 93], 33 ≤ x.toNat ∧ x.toNat ≤ 126 := fun x hx => by
    simp only [List.mem_cons, List.not_mem_nil, or_false] at hx
    rcases hx with rfl | rfl | rfl
    · decide
    · rw [UInt8.toNat_ofNat', Nat.mod_eq_of_lt (by omega)]; omega
    · decide
  rcases h with h | h | h
  · exact key _ h (by simp [wdB]) (by simp [wdB]) hb
  · exact key _ h (by simp [wdB]) (by simp [wdB]) fun x hx => (List.mem_append.1 hx).elim (hb x) (hd' x)
  · exact key _ h (by simp [wdB]) (by simp [wdB]) fun x hx => by
      simp only [List.mem_cons] at hx
      rcases hx with rfl | rfl | hx
      · decide
      · decide
      · exact hb x hx
theorem bytesA3 (c0 c1 c2 : Int) : (bytesA 3 (fun k => [AV.int .u8 c0, .int .u8 c1, .int .u8 c2].getD k .undef)).data.toList = [UInt8.ofNat c0.toNat, UInt8.ofNat c1.toNat, UInt8.ofNat c2.toNat] := rfl
theorem bytesA1 (c0 : Int) : (bytesA 1 (fun k => [AV.int .u8 c0].getD k .undef)).data.toList = [UInt8.ofNat c0.toNat] := rfl
theorem app_list (a b : ByteArray) : (a ++ b).data.toList = a.data.toList ++ b.data.toList := by
  rw [ByteArray.data_append, Array.toList_append]
theorem sz_list (s : ByteArray) : s.size = s.data.toList.length := Array.length_toList.symm
theorem u8w (x : Int) (h0 : 0 ≤ x) (h1 : x < 256) : IntKind.u8.wrap x = x := IntWalk.u8_in x ⟨h0, by omega⟩
theorem p7 (b : Nat) {mem : Mem} {o v id ver : Nat} {a : Int} {f : Nat → AV} (ho : o < b) (hid : id < b) (hm : mem o = .var v [.sl id ver 2, .int .i64 a]) (hi : mem id = .row ver 3 1 2 f) (hf : ∀ i, i < 2 → ∃ x, f i = .int .i64 x) (ha : 0 ≤ a) (ha' : a ≤ 1000) (n : Nat) (hn : n ≤ 676) :
    CallW PP 7 [.ptr o v 0, .int .i64 (n : Nat)] mem fun r m => (∃ a', m o = .var v [.sl id ver 2, .int .i64 a'] ∧ 0 ≤ a' ∧ a' ≤ a + 3 * n) ∧ Acc (b + 48) 9 1 n (fun k q => ∃ s, q = .str s ∧ Wd k s) r m ∧ ∀ i, i < b → i ≠ o → m i = mem i := by
  have hne : id ≠ o := fun e => by rw [e, hm] at hi; cases hi
  refine Fn.call fmix (g7 b) ?_
  unfold b7 q7
  simp -implicitDefEqProofs only [vqa, Nat.reduceEqDiff, Nat.reduceAdd, reduceIte, Nat.reduceLeDiff, Nat.reduceBEq, Nat.reduceLT, Nat.reduceSub, Int.reduceLT, Int.reduceLE, Int.reduceEq, Int.reduceToNat, Nat.reduceMul, eq_self, implies_true, forall_const]
  refine vFor n (fun i e m => e 0 = .ptr o v 0 ∧ e 8 = .int .i64 n ∧ e 9 = .int .i64 i ∧ (∃ a', m o = .var v [.sl id ver 2, .int .i64 a'] ∧ 0 ≤ a' ∧ a' ≤ a + 3 * i) ∧ Acc (b + 48) 9 1 i (fun k q => ∃ s, q = .str s ∧ Wd k s) (e 5) m ∧ ∀ j, j < b → j ≠ o → m j = mem j) ?_ ?_ ?_
  · simp -implicitDefEqProofs only [vqa, Nat.reduceEqDiff, Nat.reduceAdd, reduceIte, Nat.reduceLeDiff, Nat.reduceBEq, Nat.reduceLT, Nat.reduceSub, Int.reduceLT, Int.reduceLE, Int.reduceEq, Int.reduceToNat, Nat.reduceMul, eq_self, implies_true, forall_const]
    exact ⟨⟨a, hm, ha, by omega⟩, .none⟩
  · rintro i e m hi0 hi' ⟨h0, h8, h9, ⟨a', mo, a1, a2⟩, hA, hK⟩
    have mi := (hK id hid hne).trans hi
    unfold b7_0
    simp -implicitDefEqProofs only [vqa, Nat.reduceEqDiff, Nat.reduceAdd, reduceIte, Nat.reduceLeDiff, Nat.reduceBEq, Nat.reduceLT, Nat.reduceSub, Int.reduceLT, Int.reduceLE, Int.reduceEq, Int.reduceToNat, Nat.reduceMul, eq_self, implies_true, forall_const, h0, h8, h9, hi']
    refine (p39 (o + 1) (Nat.lt_succ_self o) mo mi hf a1 (by omega) (n := 26) (by decide) (by decide)).mono fun r m1 ⟨j1, hr, q1, q2, hm1⟩ => ?_
    subst hr
    subst hm1
    obtain ⟨c, rfl⟩ : ∃ c : Nat, j1 = (c : Int) := ⟨j1.toNat, by omega⟩
    have v1 : IntKind.u8.wrap (IntKind.i64.wrap (97 + (c : Int))) = ((97 + c : Nat) : Int) := by rw [wI (by omega) (by omega), u8w _ (by omega) (by omega)]; omega
    have v2 : IntKind.u8.wrap (IntKind.i64.wrap (97 + (i : Int).tmod 26)) = ((97 + i % 26 : Nat) : Int) := by
      rw [show (i : Int).tmod 26 = ((i % 26 : Nat) : Int) from rfl, wI (by omega) (by omega), u8w _ (by omega) (by omega)]; omega
    have v3 : IntKind.u8.wrap (IntKind.i64.wrap (97 + (IntKind.i64.wrap ((i : Int).tdiv 26)).tmod 26)) = ((97 + i / 26 % 26 : Nat) : Int) := by
      rw [show (i : Int).tdiv 26 = ((i / 26 : Nat) : Int) from rfl, wI (n := ((i / 26 : Nat) : Int)) (by omega) (by omega), show ((i / 26 : Nat) : Int).tmod 26 = ((i / 26 % 26 : Nat) : Int) from rfl, wI (by omega) (by omega), u8w _ (by omega) (by omega)]; omega
    simp -implicitDefEqProofs only [vqa, Nat.reduceEqDiff, Nat.reduceAdd, reduceIte, Nat.reduceLeDiff, Nat.reduceBEq, Nat.reduceLT, Nat.reduceSub, Int.reduceLT, Int.reduceLE, Int.reduceEq, Int.reduceToNat, Nat.reduceMul, eq_self, implies_true, forall_const, h0, h8, h9, v1, v2, v3]
    refine ⟨by decide, by decide, by decide, fun k hk => ?_, ?_⟩
    · have : k = 0 ∨ k = 1 ∨ k = 2 := by omega
      rcases this with rfl | rfl | rfl <;> exact ⟨_, rfl⟩
    obtain ⟨s0, hs0, hs0'⟩ : ∃ s0, bytesA 3 (fun k => [AV.int .u8 ((97 + c : Nat) : Int), .int .u8 ((97 + i % 26 : Nat) : Int), .int .u8 ((97 + i / 26 % 26 : Nat) : Int)].getD k .undef) = s0 ∧ s0.data.toList = wdB c i := ⟨_, rfl, rfl⟩
    rw [hs0]
    refine (p39 (o + 1) (Nat.lt_succ_self o) (mem := _) ((set_ne (by omega) _ _).trans (set_same _ _ _)) ((set_ne (by omega) _ _).trans ((set_ne hne _ _).trans mi)) hf (a := a' + 1) (by omega) (by omega) (n := 5) (by decide) (by decide)).mono fun r m1 ⟨j2, hr, q3, q4, hm1⟩ => ?_
    subst hr
    have hs0z : s0.size = 3 := by rw [show s0.size = s0.data.toList.length from Array.length_toList.symm, hs0']; rfl
    refine call_join (fun e m => e 0 = .ptr o v 0 ∧ e 8 = .int .i64 n ∧ e 9 = .int .i64 i ∧ (∃ s, e 7 = .str s ∧ Wd i s) ∧ (∃ a', m o = .var v [.sl id ver 2, .int .i64 a'] ∧ 0 ≤ a' ∧ a' ≤ a + 3 * (i + 1 : Nat)) ∧ Acc (b + 48) 9 1 i (fun k q => ∃ s, q = .str s ∧ Wd k s) (e 5) m ∧ ∀ j, j < b → j ≠ o → m j = mem j) ?_ ?_
    · subst hm1
      simp -implicitDefEqProofs only [vqa, Nat.reduceEqDiff, Nat.reduceAdd, reduceIte, Nat.reduceLeDiff, Nat.reduceBEq, Nat.reduceLT, Nat.reduceSub, Int.reduceLT, Int.reduceLE, Int.reduceEq, Int.reduceToNat, Nat.reduceMul, eq_self, implies_true, forall_const, h0, h8, h9]
      have g0 : Wd i s0 := ⟨c, 0, by omega, by omega, .inl hs0'⟩
      refine ⟨fun hj => ?_, fun hj => ⟨fun hj1 => ?_, fun hj1 => ?_⟩⟩
      · refine (p39 (o + 1) (Nat.lt_succ_self o) (mem := _) (set_same _ _ _) ((set_ne hne _ _).trans ((set_ne (by omega) _ _).trans ((set_ne hne _ _).trans mi))) hf (a := a' + 1 + 1) (by omega) (by omega) (n := 10) (by decide) (by decide)).mono fun r m2 ⟨j3, hr, q5, q6, hm2⟩ => ?_
        subst hr
        subst hm2
        obtain ⟨d, rfl⟩ : ∃ d : Nat, j3 = (d : Int) := ⟨j3.toNat, by omega⟩
        have v4 : IntKind.u8.wrap (IntKind.i64.wrap (48 + (d : Int))) = ((48 + d : Nat) : Int) := by rw [wI (by omega) (by omega), u8w _ (by omega) (by omega)]; omega
        have z1 : (bytesA 1 fun i => [AV.int IntKind.u8 ((48 + d : Nat) : Int)].getD i AV.undef).size = 1 := rfl
        simp -implicitDefEqProofs only [vqa, Nat.reduceEqDiff, Nat.reduceAdd, reduceIte, Nat.reduceLeDiff, Nat.reduceBEq, Nat.reduceLT, Nat.reduceSub, Int.reduceLT, Int.reduceLE, Int.reduceEq, Int.reduceToNat, Nat.reduceMul, eq_self, implies_true, forall_const, h0, h8, h9, v4]
        have y1 : ((⟨#[91]⟩ : ByteArray) ++ bytesA 1 fun i => [AV.int IntKind.u8 ((48 + d : Nat) : Int)].getD i AV.undef).data.toList = [91, UInt8.ofNat (48 + d)] := by rw [app_list]; rfl
        have y2 : (((⟨#[91]⟩ : ByteArray) ++ bytesA 1 fun i => [AV.int IntKind.u8 ((48 + d : Nat) : Int)].getD i AV.undef) ++ (⟨#[93]⟩ : ByteArray)).data.toList = [91, UInt8.ofNat (48 + d), 93] := by rw [app_list, y1]; rfl
        have e1 := sz_list ((⟨#[91]⟩ : ByteArray) ++ bytesA 1 fun i => [AV.int IntKind.u8 ((48 + d : Nat) : Int)].getD i AV.undef)
        have e2 := sz_list (((⟨#[91]⟩ : ByteArray) ++ bytesA 1 fun i => [AV.int IntKind.u8 ((48 + d : Nat) : Int)].getD i AV.undef) ++ (⟨#[93]⟩ : ByteArray))
        rw [y1] at e1
        rw [y2] at e2
        have k1 : (⟨#[91]⟩ : ByteArray).size = 1 := rfl
        have k2 : (⟨#[93]⟩ : ByteArray).size = 1 := rfl
        simp only [List.length_cons, List.length_nil] at e1 e2
        refine ⟨⟨_, rfl⟩, by omega, by omega, by omega, ⟨_, rfl, c, d, by omega, by omega, .inr (.inl (by rw [app_list, y2, hs0']))⟩, ⟨_, if_neg (by omega), by omega, by omega⟩, hA.keep ((set_ne (by omega) _ _).trans ((set_ne (by omega) _ _).trans ((set_ne (by omega) _ _).trans ((set_ne (by omega) _ _).trans (set_ne (by omega) _ _))))), fun j hj hn => by rw [if_neg (by omega), if_neg hn, if_neg hn, if_neg (by omega), if_neg hn]; exact hK j hj hn⟩
      · have k1 : (⟨#[109, 46]⟩ : ByteArray).size = 2 := rfl
        exact ⟨by omega, ⟨_, rfl, c, 0, by omega, by omega, .inr (.inr (by rw [app_list, hs0']; rfl))⟩, ⟨_, rfl, by omega, by omega⟩, hA.keep ((set_ne (by omega) _ _).trans ((set_ne (by omega) _ _).trans (set_ne (by omega) _ _))), fun j hj hn => by rw [if_neg hn, if_neg (by omega), if_neg hn]; exact hK j hj hn⟩
      · exact ⟨⟨_, rfl, g0⟩, ⟨_, rfl, by omega, by omega⟩, hA.keep ((set_ne (by omega) _ _).trans ((set_ne (by omega) _ _).trans (set_ne (by omega) _ _))), fun j hj hn => by rw [if_neg hn, if_neg (by omega), if_neg hn]; exact hK j hj hn⟩
    · rintro e m ⟨h0, h8, h9, ⟨s, h7, hw⟩, ⟨a3, mo, a4, a5⟩, hA, hK⟩
      rcases hA with ⟨hz, h3⟩ | ⟨ver', g, h3, hm3, hg⟩
      · simp -implicitDefEqProofs only [vqa, Nat.reduceEqDiff, Nat.reduceAdd, reduceIte, Nat.reduceLeDiff, Nat.reduceBEq, Nat.reduceLT, Nat.reduceSub, Int.reduceLT, Int.reduceLE, Int.reduceEq, Int.reduceToNat, Nat.reduceMul, eq_self, implies_true, forall_const, h0, h8, h9, h3, h7]
        subst hz
        exact ⟨hi0, wI (by omega) (by omega), ⟨a3, by rw [if_neg (by omega), if_neg (by omega)]; exact mo, a4, a5⟩, .first ⟨s, rfl, hw⟩, fun j hj hne => by rw [if_neg (by omega), if_neg (by omega)]; exact hK j hj hne⟩
      · simp -implicitDefEqProofs only [vqa, Nat.reduceEqDiff, Nat.reduceAdd, reduceIte, Nat.reduceLeDiff, Nat.reduceBEq, Nat.reduceLT, Nat.reduceSub, Int.reduceLT, Int.reduceLE, Int.reduceEq, Int.reduceToNat, Nat.reduceMul, eq_self, implies_true, forall_const, h0, h8, h9, h3, h7, hm3]
        exact ⟨⟨by omega, by omega⟩, hi0, wI (by omega) (by omega), ⟨a3, by rw [if_neg (by omega), if_neg (by omega)]; exact mo, a4, a5⟩, .push hg ⟨s, rfl, hw⟩, fun j hj hne => by rw [if_neg (by omega), if_neg (by omega)]; exact hK j hj hne⟩
  · rintro e m ⟨h0, h8, h9, ⟨a', mo, a1, a2⟩, hA, hK⟩
    unfold b7_0
    rcases hA with ⟨hz, h3⟩ | ⟨ver', g, h3, hm3, hg⟩
    · simp -implicitDefEqProofs only [vqa, Nat.reduceEqDiff, Nat.reduceAdd, reduceIte, Nat.reduceLeDiff, Nat.reduceBEq, Nat.reduceLT, Nat.reduceSub, Int.reduceLT, Int.reduceLE, Int.reduceEq, Int.reduceToNat, Nat.reduceMul, eq_self, implies_true, forall_const, h0, h8, h9, h3]
      exact ⟨⟨a', mo, a1, a2⟩, .inl ⟨hz, rfl⟩, hK⟩
    · simp -implicitDefEqProofs only [vqa, Nat.reduceEqDiff, Nat.reduceAdd, reduceIte, Nat.reduceLeDiff, Nat.reduceBEq, Nat.reduceLT, Nat.reduceSub, Int.reduceLT, Int.reduceLE, Int.reduceEq, Int.reduceToNat, Nat.reduceMul, eq_self, implies_true, forall_const, h0, h8, h9, h3, hm3]
      exact ⟨⟨a', mo, a1, a2⟩, .inr ⟨_, _, rfl, hm3, hg⟩, hK⟩
end Go.Ab
