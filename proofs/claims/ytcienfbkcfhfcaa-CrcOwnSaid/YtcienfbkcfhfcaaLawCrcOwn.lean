/- A text with its own sum behind it, the lowest byte first, has one sum, whatever the text; three texts are joined in either order; nothing joined leaves a sum as it is. No condition; longer texts than the statement's own limit ask the example alone. -/
import Derived.Test.YtcienfbkcfhfcaaRows
import Derived.Test.YtcienfbkcfhfcaaCrcWakes
import Derived.Test.YtcienfbkcfhfcaaCrcPlainB
import Derived.Test.YtcienfbkcfhfcaaConv
import Derived.ProofKit
import Derived.OpenShut
import Derived.ShutString
import Derived.ChangeOld
import Derived.Below
set_option linter.unusedSimpArgs false
set_option linter.unusedVariables false
namespace Go.Proofs.Ytcienfbkcfhfcaa.crcOwn
open Go.ChangeShapes Go.WideShapes Go.ChangeAt Go.RowKit
open Go.ChangeMaps (open_string shut_string)
theorem join_gen (a b : W32) (bn : Int) (hb : bn = tn b) (n : Int) (m : Nat) (hn : n = m) (hm : m < 9223372036854775808) (w : World) :
    Calls Try.prog 19 #[.int .u32 (tn a), .int .u32 bn, .int .i64 n] w fun e w' => e = .returned (.int .u32 (tn (joinF a b m))) ∧ Below w.heap.size w w' := by
  subst hb hn; exact join_any a b m hm w
theorem lowB_num (v : W32) : ((lowB v).toNat : Int) = tn v % 256 := by
  unfold lowB tn; rw [UInt8.toNat_ofNat']; omega
theorem tn_div (v : W32) (k : Nat) : tn (v >>> k) = tn v / (2 ^ k : Int) := (shr_tn v k).symm
theorem own_cells (v : W32) (j : Nat) (hj : j < (le4 v).length) :
    (#[.int .u8 (tn v % 256), .int .u8 (tn v / 256 % 256), .int .u8 (tn v / 65536 % 256), .int .u8 (tn v / 16777216 % 256)] : Array Value)[j]? = some (.int .u8 ((le4 v)[j].toNat : Int)) := by
  have h : j < 4 := hj
  match j, h with
  | 0, _ => simp [le4, lowB_num]
  | 1, _ => simp [le4, lowB_num, tn_div]
  | 2, _ => simp [le4, lowB_num, tn_div]
  | 3, _ => simp [le4, lowB_num, tn_div]
theorem str_u : Try.prog.underlying 9 = some .string := by kernel_rfl
theorem sl_u8 : Try.prog.underlying 29 = some (.slice 5) := by kernel_rfl
theorem u8_u : Try.prog.underlying 5 = some (.int .u8) := by kernel_rfl
theorem own_eq (a : ByteArray) : (tn (sumF (a.data.toList ++ le4 (sumF a.data.toList))) == (558161692 : Int)) = true := by
  have h := own_sum a.data.toList
  unfold sumF
  rw [h]
  unfold tn
  rw [BitVec.toNat_ofNat]; rfl
theorem size_toList (a : ByteArray) : a.data.toList.length = a.size := by simp
theorem join_sum (l m : List UInt8) : joinF (sumF l) (sumF m) m.length = sumF (l ++ m) := join_again 0#32 l m
theorem three (a b c : ByteArray) : (tn (joinF (joinF (sumF a.data.toList) (sumF b.data.toList) b.size) (sumF c.data.toList) c.size) == tn (joinF (sumF a.data.toList) (joinF (sumF b.data.toList) (sumF c.data.toList) c.size) (b.size + c.size))) = true := by
  rw [← size_toList b, ← size_toList c]
  have h2 := join_sum a.data.toList (b.data.toList ++ c.data.toList)
  rw [List.length_append] at h2
  rw [join_sum, join_sum, join_sum, h2, List.append_assoc]; simp
theorem none_more (x : W32) : (tn (joinF x 0#32 0) == tn x) = true := by simp [joinF, stpN]
set_option maxRecDepth 100000 in
set_option maxHeartbeats 1000000 in
theorem walk (a0 : ByteArray) (w0 : a0.size ≤ maxLen) (a1 : ByteArray) (w1 : a1.size ≤ maxLen) (a2 : ByteArray) (w2 : a2.size ≤ maxLen) (w : World) :
    Calls Try.prog 6 #[.string a0, .string a1, .string a2] w fun e w' => e = .returned (.bool true) ∧ Below w.heap.size w w' := by
  unfold maxLen at w0 w1 w2
  by_cases h : 20000 < a0.size
  · go_enter Try.func6, Try.ntmps6
    go_wp2_with (go_at_call 14; refine (wakes_any _).mono ?_; rintro e w' ⟨rfl, hb⟩)
    go_ret
    exact ⟨rfl, hb⟩
  · by_cases h' : 20000 < a1.size
    · go_enter Try.func6, Try.ntmps6
      go_wp2_with (go_at_call 14; refine (wakes_any _).mono ?_; rintro e w' ⟨rfl, hb⟩)
      go_ret
      exact ⟨rfl, hb⟩
    · by_cases h'' : 20000 < a2.size
      · go_enter Try.func6, Try.ntmps6
        go_wp2_with (go_at_call 14; refine (wakes_any _).mono ?_; rintro e w' ⟨rfl, hb⟩)
        go_ret
        exact ⟨rfl, hb⟩
      · have hs0 : a0.size ≤ 140737488351232 := by omega
        have hs1 : a1.size ≤ 140737488351232 := by omega
        have hs2 : a2.size ≤ 140737488351232 := by omega
        go_enter Try.func6, Try.ntmps6
        have J1 := own_eq a0
        have J2 := three a0 a1 a2
        have J3 := none_more (sumF a0.data.toList)
        have hn1 : a1.size < 9223372036854775808 := by omega
        have hn2 : a2.size < 9223372036854775808 := by omega
        have hn3 : a1.size + a2.size < 9223372036854775808 := by omega
        go_wp2_with fail
        refine (sum_any a0 _ hs0).mono ?_
        rintro e w' ⟨rfl, rfl⟩
        have hl4 : (le4 (sumF a0.data.toList)).length = 4 := rfl
        have hs4 : (a0 ++ (⟨(le4 (sumF a0.data.toList)).toArray⟩ : ByteArray)).size ≤ 140737488351232 := by
          rw [ByteArray.size_append]
          have : (⟨(le4 (sumF a0.data.toList)).toArray⟩ : ByteArray).size = 4 := rfl
          omega
        go_wp2_with (first | ((with_reducible refine at_toStr sl_u8 u8_u str_u w'.heap.size 0 4 (le4 (sumF a0.data.toList)) 4 ?_ ?_ ?_ ?_); exact rfl; exact rfl; (intro j hj; rw [Nat.zero_add, World.cell?_alloc_new]; exact own_cells _ j hj)) | fail)
        have hb0 : Below w'.heap.size w' (w'.alloc (.cells #[Value.int IntKind.u8 (tn (sumF a0.data.toList) % 256), Value.int IntKind.u8 (tn (sumF a0.data.toList) / 256 % 256), Value.int IntKind.u8 (tn (sumF a0.data.toList) / 65536 % 256), Value.int IntKind.u8 (tn (sumF a0.data.toList) / 16777216 % 256)] 5)) := (Below.refl _ _).alloc (Nat.le_refl _) _
        obtain ⟨w1, hw1⟩ : ∃ w1, w1 = w'.alloc (.cells #[Value.int IntKind.u8 (tn (sumF a0.data.toList) % 256), Value.int IntKind.u8 (tn (sumF a0.data.toList) / 256 % 256), Value.int IntKind.u8 (tn (sumF a0.data.toList) / 65536 % 256), Value.int IntKind.u8 (tn (sumF a0.data.toList) / 16777216 % 256)] 5) := ⟨_, rfl⟩
        rw [← hw1] at hb0 ⊢
        clear hw1
        refine (sum_any a0 _ hs0).mono ?_
        rintro e w2 ⟨rfl, rfl⟩
        go_wp2_with fail
        refine (sum_any a1 _ hs1).mono ?_
        rintro e w3 ⟨rfl, rfl⟩
        go_wp2_with fail
        refine (join_any _ _ a1.size hn1 _).mono ?_
        rintro e w4 ⟨rfl, hb4⟩
        go_wp2_with fail
        refine (sum_any a2 _ hs2).mono ?_
        rintro e w5 ⟨rfl, rfl⟩
        go_wp2_with fail
        refine (join_any _ _ a2.size hn2 _).mono ?_
        rintro e w6 ⟨rfl, hb6⟩
        go_wp2_with fail
        refine (sum_any a0 _ hs0).mono ?_
        rintro e w7 ⟨rfl, rfl⟩
        go_wp2_with fail
        refine (sum_any a1 _ hs1).mono ?_
        rintro e w8 ⟨rfl, rfl⟩
        go_wp2_with fail
        refine (sum_any a2 _ hs2).mono ?_
        rintro e w9 ⟨rfl, rfl⟩
        go_wp2_with fail
        refine (join_any _ _ a2.size hn2 _).mono ?_
        rintro e wa ⟨rfl, hba⟩
        go_wp2_with fail
        refine (join_gen _ _ _ rfl _ (a1.size + a2.size) (by simp) hn3 _).mono ?_
        rintro e wb ⟨rfl, hbb⟩
        go_wp2_with fail
        refine (sum_any _ _ hs4).mono ?_
        rintro e wc ⟨rfl, rfl⟩
        go_wp2_with fail
        refine (join_gen _ 0#32 0 rfl 0 0 rfl (by decide) _).mono ?_
        rintro e wd ⟨rfl, hbd⟩
        go_wp2_with fail
        refine (wakes_any _).mono ?_
        rintro e we ⟨rfl, hbe⟩
        go_wp2_with fail
        go_ret
        have q1 := hb0.trans (hb4.mono hb0.size)
        have q2 := q1.trans (hb6.mono q1.size)
        have q3 := q2.trans (hba.mono q2.size)
        have q4 := q3.trans (hbb.mono q3.size)
        have q5 := q4.trans (hbd.mono q4.size)
        exact ⟨rfl, q5.trans (hbe.mono q5.size)⟩
theorem own : ownKnob Try.prog.godebug = none := by kernel_rfl
theorem laidOut : laidOutB Try.prog = true := by kernel_rfl
set_option maxRecDepth 100000 in
theorem lifted (os : Os) (started : os.Started) (H : Type) (enc : TypeId × Value → H) :
    ReturnsInHanded {} Try.checked os 6 .any (Rows.crcOwnSpec.pre6 enc Try.prog Try.f6 Rows.crcOwnRow.domain false) (Rows.crcOwnSpec.post enc Try.prog Try.f6 false true false false) := by
  refine returnsInHanded_of_change (C := Try.checked) own started (by kernel_rfl) Try.func6
    (ChangeSpec.witness6 (enc := enc) (C := Try.checked) false ⟨#[], #[.string ByteArray.empty, .string ByteArray.empty, .string ByteArray.empty], []⟩ 8 (by kernel_rfl) (by kernel_rfl) (by kernel_rfl) (by kernel_rfl)) ?_
  intro W base args ds gs before hval0 hW hcnd _
  have hval : ∀ (j : Nat) t v, Try.f6.params[j]? = some t → args[j]? = some v → Value.okWide Try.prog W .any base t v := hval0
  have hW' := hW
  obtain ⟨p, q, hA0, hV, rfl, hfz, hnd⟩ := hW
  have hA : DataW.TrodAll enc Try.prog W 0 (fun _ => true) true Try.f6.params.toList args.toList ds p := hA0
  rw [Try.params6] at hA hval
  obtain ⟨v0, vs0, d0, ds0, p0, q0, hargs, rfl, rfl, h0, r0⟩ := trodAll_cons hA
  obtain ⟨v1, vs1, d1, ds1, p1, q1, rfl, rfl, rfl, h1, r1⟩ := trodAll_cons r0
  obtain ⟨v2, vs2, d2, ds2, p2, q2, rfl, rfl, rfl, h2, r2⟩ := trodAll_cons r1
  obtain ⟨rfl, rfl, rfl⟩ := trodAll_nil r2
  obtain rfl : args = #[v0, v1, v2] := by cases args; simp_all
  obtain ⟨rfl, rfl⟩ := trodVars_none hV
  have k0 := h0
  have lt0 : ∀ x ∈ p0, x.block < W.heap.size := by obtain ⟨m, hm⟩ := k0; exact DataW.trod_lt m _ _ _ hm
  have k1 := h1
  have lt1 : ∀ x ∈ p1, x.block < W.heap.size := by obtain ⟨m, hm⟩ := k1; exact DataW.trod_lt m _ _ _ hm
  have k2 := h2
  have lt2 : ∀ x ∈ p2, x.block < W.heap.size := by obtain ⟨m, hm⟩ := k2; exact DataW.trod_lt m _ _ _ hm
  obtain ⟨a0, rfl, e0, f0, w0⟩ := open_string Try.underlying9 (hval 0 9 v0 rfl rfl) h0
  obtain ⟨a1, rfl, e1, f1, w1⟩ := open_string Try.underlying9 (hval 1 9 v1 rfl rfl) h1
  obtain ⟨a2, rfl, e2, f2, w2⟩ := open_string Try.underlying9 (hval 2 9 v2 rfl rfl) h2
  clear hA0 hval0
  refine (walk a0 w0 a1 w1 a2 w2 W).mono fun e W' ⟨he, bel⟩ => ?_
  subst he
  exact ⟨_, rfl, _, _, _, [], _, [], hW', trodAll_mk1 (shut_bool Try.underlying4 _), (trodAll_cons_mk (Below.trod laidOut (by kernel_rfl) (of_decide_eq_true (by kernel_rfl)) k0 bel lt0) (trodAll_cons_mk (Below.trod laidOut (by kernel_rfl) (of_decide_eq_true (by kernel_rfl)) k1 bel lt1) (trodAll_cons_mk (Below.trod laidOut (by kernel_rfl) (of_decide_eq_true (by kernel_rfl)) k2 bel lt2) trodAll_mk0))), rfl, bel.frame _, fun h => by cases h⟩
theorem over : Rows.crcOwnRow.holds Try.pinned (OpenSpec.ofChange Rows.crcOwnSpec) :=
  OpenClaim.holds_of_wide 6 Try.f6 rfl rfl rfl rfl rfl rfl rfl ⟨rfl, rfl, rfl, rfl, rfl⟩ rfl rfl rfl rfl rfl (by kernel_rfl) Try.func6 (by kernel_rfl)
    (of_decide_eq_true (by kernel_rfl)) (by unfold Func.isWrapper; first | (rw [if_pos (by decide +kernel)]; kernel_rfl) | (rw [if_neg (by decide +kernel)]; exact ⟨rfl, rfl⟩))
    (fun os started H enc _ => lifted os started H enc)
theorem proved : Rows.CrcOwnSaid := over
#print axioms proved
end Go.Proofs.Ytcienfbkcfhfcaa.crcOwn
