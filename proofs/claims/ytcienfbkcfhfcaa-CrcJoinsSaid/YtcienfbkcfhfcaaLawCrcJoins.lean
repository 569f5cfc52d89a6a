/- The sum of any two texts is that of their sums and of the second one's length, and the sum goes on from the first one's; a length below 0 gives 0; longer texts than the statement's own limit ask the example alone. No condition. -/
import Derived.Test.YtcienfbkcfhfcaaRows
import Derived.Test.YtcienfbkcfhfcaaCrcWakes
import Derived.ProofKit
import Derived.OpenShut
import Derived.ShutString
import Derived.ChangeOld
import Derived.Below
set_option linter.unusedSimpArgs false
set_option linter.unusedVariables false
namespace Go.Proofs.Ytcienfbkcfhfcaa.crcJoins
open Go.ChangeShapes Go.WideShapes Go.ChangeAt Go.RowKit
open Go.ChangeMaps (open_string shut_string)
theorem toList_app (a b : ByteArray) : (a ++ b).data.toList = a.data.toList ++ b.data.toList := by simp
theorem size_toList (a : ByteArray) : a.data.toList.length = a.size := by simp
theorem joined (a b : ByteArray) (c d : W32) (hc : c = joinF (sumF a.data.toList) (sumF b.data.toList) b.size) (hd : d = sumF (a.data.toList ++ b.data.toList)) : (tn c == tn d) = true := by
  subst hc hd
  rw [← size_toList]
  unfold sumF
  have h := join_again 0#32 a.data.toList b.data.toList
  unfold sumF at h
  rw [h]; simp
theorem gone (a b : ByteArray) (c d : W32) (hc : c = againF (sumF a.data.toList) b.data.toList) (hd : d = sumF (a.data.toList ++ b.data.toList)) : (tn c == tn d) = true := by
  subst hc hd
  rw [again_app]; simp
theorem walk (a0 : ByteArray) (w0 : a0.size ≤ maxLen) (a1 : ByteArray) (w1 : a1.size ≤ maxLen) (a2 : Int) (w2 : (Lit.int .i64 a2).wf = true) (w : World) :
    Calls Try.prog 4 #[.string a0, .string a1, .int .i64 a2] w fun e w' => e = .returned (.bool true) ∧ Below w.heap.size w w' := by
  have hz : -9223372036854775808 ≤ a2 ∧ a2 ≤ 9223372036854775807 := by simpa [Lit.wf, IntKind.min, IntKind.max, IntKind.signed, IntKind.bits] using w2
  clear w2
  unfold maxLen at w0 w1
  by_cases h : 20000 < a0.size
  · go_enter Try.func4, Try.ntmps4
    go_wp2_with (go_at_call 14; refine (wakes_any _).mono ?_; rintro e w' ⟨rfl, hb⟩)
    go_ret
    exact ⟨rfl, hb⟩
  · by_cases h' : 20000 < a1.size
    · go_enter Try.func4, Try.ntmps4
      go_wp2_with (go_at_call 14; refine (wakes_any _).mono ?_; rintro e w' ⟨rfl, hb⟩)
      go_ret
      exact ⟨rfl, hb⟩
    · have hs0 : a0.size ≤ 140737488351232 := by omega
      have hs1 : a1.size ≤ 140737488351232 := by omega
      have hs2 : (a0 ++ a1).size ≤ 140737488351232 := by rw [ByteArray.size_append]; omega
      have J1 := joined a0 a1 _ _ rfl rfl
      have J2 := gone a0 a1 _ _ rfl rfl
      have J3 : (tn 0#32 == (0 : Int)) = true := rfl
      have hn : a1.size < 9223372036854775808 := by omega
      rcases Int.lt_trichotomy a2 0 with hk | hk | hk
      · have hk0 : (a2 == 0) = false := by simp; omega
        go_enter Try.func4, Try.ntmps4
        go_wp2_with (first | (go_at_call 15; refine (sum_any _ _ (by first | exact hs0 | exact hs1 | exact hs2)).mono ?_; rintro e w' ⟨rfl, rfl⟩) | (go_at_call 16; refine (refSum_any _ _ (by first | exact hs0 | exact hs1 | exact hs2)).mono ?_; rintro e w' ⟨rfl, rfl⟩) | (go_at_call 17; refine (again_any _ a1 _ hs1).mono ?_; rintro e w' ⟨rfl, rfl⟩) | (go_at_call 19; (with_reducible refine (join_any _ _ a1.size hn _).mono ?_); rintro e w1 ⟨rfl, hb1⟩) | (go_at_call 19; (with_reducible refine (join_neg _ _ _ ?_ _).mono ?_); omega; rintro e w2 ⟨rfl, hb2⟩) | (go_at_call 14; refine (wakes_any _).mono ?_; rintro e w3 ⟨rfl, hb3⟩))
        go_ret
        exact ⟨rfl, (hb1.trans (hb2.mono hb1.size)).trans (hb3.mono (hb1.trans (hb2.mono hb1.size)).size)⟩
      · subst hk
        go_enter Try.func4, Try.ntmps4
        go_wp2_with (first | (go_at_call 15; refine (sum_any _ _ (by first | exact hs0 | exact hs1 | exact hs2)).mono ?_; rintro e w' ⟨rfl, rfl⟩) | (go_at_call 16; refine (refSum_any _ _ (by first | exact hs0 | exact hs1 | exact hs2)).mono ?_; rintro e w' ⟨rfl, rfl⟩) | (go_at_call 17; refine (again_any _ a1 _ hs1).mono ?_; rintro e w' ⟨rfl, rfl⟩) | (go_at_call 19; (with_reducible refine (join_any _ _ a1.size hn _).mono ?_); rintro e w1 ⟨rfl, hb1⟩) | (go_at_call 19; (with_reducible refine (join_neg _ _ _ ?_ _).mono ?_); omega; rintro e w2 ⟨rfl, hb2⟩) | (go_at_call 14; refine (wakes_any _).mono ?_; rintro e w3 ⟨rfl, hb3⟩))
        go_ret
        exact ⟨rfl, hb1.trans (hb3.mono hb1.size)⟩
      · have hk0 : (-a2 == 0) = false := by simp; omega
        go_enter Try.func4, Try.ntmps4
        go_wp2_with (first | (go_at_call 15; refine (sum_any _ _ (by first | exact hs0 | exact hs1 | exact hs2)).mono ?_; rintro e w' ⟨rfl, rfl⟩) | (go_at_call 16; refine (refSum_any _ _ (by first | exact hs0 | exact hs1 | exact hs2)).mono ?_; rintro e w' ⟨rfl, rfl⟩) | (go_at_call 17; refine (again_any _ a1 _ hs1).mono ?_; rintro e w' ⟨rfl, rfl⟩) | (go_at_call 19; (with_reducible refine (join_any _ _ a1.size hn _).mono ?_); rintro e w1 ⟨rfl, hb1⟩) | (go_at_call 19; (with_reducible refine (join_neg _ _ _ ?_ _).mono ?_); omega; rintro e w2 ⟨rfl, hb2⟩) | (go_at_call 14; refine (wakes_any _).mono ?_; rintro e w3 ⟨rfl, hb3⟩))
        go_ret
        exact ⟨rfl, (hb1.trans (hb2.mono hb1.size)).trans (hb3.mono (hb1.trans (hb2.mono hb1.size)).size)⟩
theorem own : ownKnob Try.prog.godebug = none := by kernel_rfl
theorem laidOut : laidOutB Try.prog = true := by kernel_rfl
set_option maxRecDepth 100000 in
theorem lifted (os : Os) (started : os.Started) (H : Type) (enc : TypeId × Value → H) :
    ReturnsInHanded {} Try.checked os 4 .any (Rows.crcJoinsSpec.pre6 enc Try.prog Try.f4 Rows.crcJoinsRow.domain false) (Rows.crcJoinsSpec.post enc Try.prog Try.f4 false true false false) := by
  refine returnsInHanded_of_change (C := Try.checked) own started (by kernel_rfl) Try.func4
    (ChangeSpec.witness6 (enc := enc) (C := Try.checked) false ⟨#[], #[.string ByteArray.empty, .string ByteArray.empty, .int .i64 0], []⟩ 8 (by kernel_rfl) (by kernel_rfl) (by kernel_rfl) (by kernel_rfl)) ?_
  intro W base args ds gs before hval0 hW hcnd _
  have hval : ∀ (j : Nat) t v, Try.f4.params[j]? = some t → args[j]? = some v → Value.okWide Try.prog W .any base t v := hval0
  have hW' := hW
  obtain ⟨p, q, hA0, hV, rfl, hfz, hnd⟩ := hW
  have hA : DataW.TrodAll enc Try.prog W 0 (fun _ => true) true Try.f4.params.toList args.toList ds p := hA0
  rw [Try.params4] at hA hval
  obtain ⟨v0, vs0, d0, ds0, p0, q0, hargs, rfl, rfl, h0, r0⟩ := trodAll_cons hA
  obtain ⟨v1, vs1, d1, ds1, p1, q1, rfl, rfl, rfl, h1, r1⟩ := trodAll_cons r0
  obtain ⟨v2, vs2, d2, ds2, p2, q2, rfl, rfl, rfl, h2, r2⟩ := trodAll_cons r1
  obtain ⟨rfl, rfl, rfl⟩ := trodAll_nil r2
  obtain rfl : args = #[v0, v1, v2] := by cases args; simp_all
  obtain ⟨rfl, rfl⟩ := trodVars_none hV
  have k0 := h0
  have lt0 : ∀ x ∈ p0, x.block < W.heap.size := by obtain ⟨m, hm⟩ := k0; exact DataW.trod_lt m _ _ _ hm
  have k1 := h1
  have lt1 : ∀ x ∈ p1, x.block < W.heap.size := by obtain ⟨m, hm⟩ := k1; exact DataW.trod_lt m _ _ _ hm
  have k2 := h2
  have lt2 : ∀ x ∈ p2, x.block < W.heap.size := by obtain ⟨m, hm⟩ := k2; exact DataW.trod_lt m _ _ _ hm
  obtain ⟨a0, rfl, e0, f0, w0⟩ := open_string Try.underlying9 (hval 0 9 v0 rfl rfl) h0
  obtain ⟨a1, rfl, e1, f1, w1⟩ := open_string Try.underlying9 (hval 1 9 v1 rfl rfl) h1
  obtain ⟨a2, rfl, e2, f2, w2⟩ := open_int Try.underlying3 (hval 2 3 v2 rfl rfl) h2
  clear hA0 hval0
  refine (walk a0 w0 a1 w1 a2 w2 W).mono fun e W' ⟨he, bel⟩ => ?_
  subst he
  exact ⟨_, rfl, _, _, _, [], _, [], hW', trodAll_mk1 (shut_bool Try.underlying4 _), (trodAll_cons_mk (Below.trod laidOut (by kernel_rfl) (of_decide_eq_true (by kernel_rfl)) k0 bel lt0) (trodAll_cons_mk (Below.trod laidOut (by kernel_rfl) (of_decide_eq_true (by kernel_rfl)) k1 bel lt1) (trodAll_cons_mk (Below.trod laidOut (by kernel_rfl) (of_decide_eq_true (by kernel_rfl)) k2 bel lt2) trodAll_mk0))), rfl, bel.frame _, fun h => by cases h⟩
theorem over : Rows.crcJoinsRow.holds Try.pinned (OpenSpec.ofChange Rows.crcJoinsSpec) :=
  OpenClaim.holds_of_wide 4 Try.f4 rfl rfl rfl rfl rfl rfl rfl ⟨rfl, rfl, rfl, rfl, rfl⟩ rfl rfl rfl rfl rfl (by kernel_rfl) Try.func4 (by kernel_rfl)
    (of_decide_eq_true (by kernel_rfl)) (by unfold Func.isWrapper; first | (rw [if_pos (by decide +kernel)]; kernel_rfl) | (rw [if_neg (by decide +kernel)]; exact ⟨rfl, rfl⟩))
    (fun os started H enc _ => lifted os started H enc)
theorem proved : Rows.CrcJoinsSaid := over
#print axioms proved
end Go.Proofs.Ytcienfbkcfhfcaa.crcJoins
