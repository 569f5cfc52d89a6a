/- A disk that nobody made has no sectors: reading, writing and arming it is refused, it is not dead, has no size and no writes. No condition; a longer text than the statement's own limit asks the example alone. -/
import Derived.Test.YtcienfbkcfhfcaaRows
import Derived.Test.YtcienfbkcfhfcaaDiskFair
import Derived.ProofKit
import Derived.OpenShut
import Derived.ShutString
import Derived.ChangeOld
import Derived.Below
set_option linter.unusedSimpArgs false
set_option linter.unusedVariables false
namespace Go.Proofs.Ytcienfbkcfhfcaa.diskNone
open Go.ChangeShapes Go.WideShapes Go.ChangeAt Go.RowKit
open Go.ChangeMaps (open_string shut_string)
theorem agg_eq {cs : Array Value} {l : List Value} (h : cs.toList = l) : cs = l.toArray := by rw [← h]
set_option maxHeartbeats 1000000 in
theorem walk (w : World) (cs : Array Value) (a : StepT) (h : kStep.R w a cs.toList) :
    Calls Try.prog 9 #[.agg cs] w fun e w' => e = .returned (.bool true) ∧ Below w.heap.size w w' := by
  obtain ⟨k, n, p, s, u⟩ := a
  obtain ⟨hc, hk, hn, hp, hs⟩ := kStep_cells h
  obtain rfl := agg_eq hc
  have hslr : Hid (SlR kStep ((w.alloc (.cells #[.int .i64 k, .int .i64 n, .int .i64 p, .string s] 44)).alloc (.cells #[.int .i64 k, .int .i64 n, .int .i64 p, .string s] 44)) [(k, n, p, s, u)] (.slice (some ⟨w.heap.size + 1, 0, none⟩) 1 1)) := by
    refine Lib.hid ⟨some ⟨w.heap.size + 1, 0, none⟩, 1, rfl, Nat.le_refl _, by decide, by simp, fun i x hi => ?_⟩
    have hi0 : i = 0 := by
      have := (List.getElem?_eq_some_iff.1 hi).1
      simp at this; exact this
    subst hi0
    simp at hi
    subst hi
    refine ⟨_, _, [.int .i64 k, .int .i64 n, .int .i64 p, .string s], rfl, rfl, ?_, ?_⟩
    · intro j hj
      have hb := Blk.new' (w.alloc (.cells #[.int .i64 k, .int .i64 n, .int .i64 p, .string s] 44)) #[.int .i64 k, .int .i64 n, .int .i64 p, .string s] 44 (n := w.heap.size + 1) (by simp)
      have := hb.cell (0 + 0 * kStep.n + j)
      rw [this]; simp
    · exact h
  clear hc h
  have hb0 : Below w.heap.size w ((w.alloc (.cells #[.int .i64 k, .int .i64 n, .int .i64 p, .string s] 44)).alloc (.cells #[.int .i64 k, .int .i64 n, .int .i64 p, .string s] 44)) := ((Below.refl _ _).alloc (Nat.le_refl _) _).alloc (by simp) _
  have HB0 := Lib.hid hb0
  clear hb0
  by_cases hf : s.size ≤ 2000
  · have hfair : Hid (fairB [(k, n, p, s, u)] = true) := by refine Lib.hid ?_; simp [fairB, hf]
    clear hk hn hp hs hf
    go_enter Try.func9, Try.ntmps9
    go_wp2_with (first | (go_at_call 21; refine (fair_any _ _ _ hslr.out).mono ?_; rintro e w1 ⟨rfl, hw1⟩; have hw1 := hw1.symm; subst hw1; rw [hfair.out]) | (go_at_call 31; refine (start_nil _).mono ?_; rintro e w1 ⟨rfl, hw1⟩; have hw1 := hw1.symm; subst hw1) | (go_at_call 27; refine (read_nil _ _).mono ?_; rintro e w1 ⟨rfl, hw1⟩; have hw1 := hw1.symm; subst hw1) | (go_at_call 25; refine (write_nil _ _ _).mono ?_; rintro e w1 ⟨rfl, hw1⟩; have hw1 := hw1.symm; subst hw1) | (go_at_call 29; refine (arm_nil _ _ _).mono ?_; rintro e w1 ⟨rfl, hw1⟩; have hw1 := hw1.symm; subst hw1) | (go_at_call 33; refine (dead_nil _).mono ?_; rintro e w1 ⟨rfl, hw1⟩; have hw1 := hw1.symm; subst hw1) | (go_at_call 37; refine (size_nil _).mono ?_; rintro e w1 ⟨rfl, hw1⟩; have hw1 := hw1.symm; subst hw1) | (go_at_call 34; refine (writes_nil _).mono ?_; rintro e w1 ⟨rfl, hw1⟩; have hw1 := hw1.symm; subst hw1) | (go_at_call 22; refine (wakes11_any _).mono ?_; rintro e w2 ⟨rfl, hb2⟩))
    go_ret
    exact ⟨rfl, HB0.out.trans (hb2.mono HB0.out.size)⟩
  · have hfair : Hid (fairB [(k, n, p, s, u)] = false) := by refine Lib.hid ?_; simp [fairB, hf]
    clear hk hn hp hs hf
    go_enter Try.func9, Try.ntmps9
    go_wp2_with (first | (go_at_call 21; refine (fair_any _ _ _ hslr.out).mono ?_; rintro e w1 ⟨rfl, hw1⟩; have hw1 := hw1.symm; subst hw1; rw [hfair.out]) | (go_at_call 22; refine (wakes11_any _).mono ?_; rintro e w2 ⟨rfl, hb2⟩))
    go_ret
    exact ⟨rfl, HB0.out.trans (hb2.mono HB0.out.size)⟩
theorem own : ownKnob Try.prog.godebug = none := by kernel_rfl
theorem laidOut : laidOutB Try.prog = true := by kernel_rfl
set_option maxRecDepth 100000 in
theorem lifted (os : Os) (started : os.Started) (H : Type) (enc : TypeId × Value → H) :
    ReturnsInHanded {} Try.checked os 9 .any (Rows.diskNoneSpec.pre6 enc Try.prog Try.f9 Rows.diskNoneRow.domain false) (Rows.diskNoneSpec.post enc Try.prog Try.f9 false true false false) := by
  refine returnsInHanded_of_change (C := Try.checked) own started (by kernel_rfl) Try.func9
    (ChangeSpec.witness6 (enc := enc) (C := Try.checked) false ⟨#[], #[.agg #[.int .i64 0,.int .i64 0,.int .i64 0,.string ByteArray.empty]], []⟩ 8 (by kernel_rfl) (by kernel_rfl) (by kernel_rfl) (by kernel_rfl)) ?_
  intro W base args ds gs before hval0 hW hcnd _
  have hval : ∀ (j : Nat) t v, Try.f9.params[j]? = some t → args[j]? = some v → Value.okWide Try.prog W .any base t v := hval0
  have hW' := hW
  obtain ⟨p, q, hA0, hV, rfl, hfz, hnd⟩ := hW
  have hA : DataW.TrodAll enc Try.prog W 0 (fun _ => true) true Try.f9.params.toList args.toList ds p := hA0
  rw [Try.params9] at hA hval
  obtain ⟨v0, vs0, d0, ds0, p0, q0, hargs, rfl, rfl, h0, r0⟩ := trodAll_cons hA
  obtain ⟨rfl, rfl, rfl⟩ := trodAll_nil r0
  obtain rfl : args = #[v0] := by cases args; simp_all
  obtain ⟨rfl, rfl⟩ := trodVars_none hV
  have k0 := h0
  have lt0 : ∀ x ∈ p0, x.block < W.heap.size := by obtain ⟨m, hm⟩ := k0; exact DataW.trod_lt m _ _ _ hm
  obtain ⟨cs0, e0, _⟩ := okWide_struct Try.underlying44 (hval 0 44 v0 rfl rfl)
  obtain ⟨a0, w0⟩ : ∃ a, kStep.R W a cs0.toList := by
    obtain ⟨fuel, hf⟩ := h0
    rw [e0] at hf
    exact kStep.opn hf
  subst e0
  clear hA0 hval0
  refine (walk W cs0 a0 w0).mono fun e W' ⟨he, bel⟩ => ?_
  subst he
  exact ⟨_, rfl, _, _, _, [], _, [], hW', trodAll_mk1 (shut_bool Try.underlying4 _), (trodAll_cons_mk (Below.trod laidOut (by kernel_rfl) (of_decide_eq_true (by kernel_rfl)) k0 bel lt0) trodAll_mk0), rfl, bel.frame _, fun h => by cases h⟩
theorem over : Rows.diskNoneRow.holds Try.pinned (OpenSpec.ofChange Rows.diskNoneSpec) :=
  OpenClaim.holds_of_wide 9 Try.f9 rfl rfl rfl rfl rfl rfl rfl ⟨rfl, rfl, rfl, rfl, rfl⟩ rfl rfl rfl rfl rfl (by kernel_rfl) Try.func9 (by kernel_rfl)
    (of_decide_eq_true (by kernel_rfl)) (by unfold Func.isWrapper; first | (rw [if_pos (by decide +kernel)]; kernel_rfl) | (rw [if_neg (by decide +kernel)]; exact ⟨rfl, rfl⟩))
    (fun os started H enc _ => lifted os started H enc)
theorem proved : Rows.DiskNoneSaid := over
#print axioms proved
end Go.Proofs.Ytcienfbkcfhfcaa.diskNone
