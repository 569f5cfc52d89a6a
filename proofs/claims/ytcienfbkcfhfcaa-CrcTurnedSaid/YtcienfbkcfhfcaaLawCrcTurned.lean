/- Two texts of one length that differ in some bits of one stretch of 32 have unlike sums, and like sums where no bit differs. No condition; longer texts than the statement's own limit, and the empty one, ask the example alone. -/
import Derived.Test.YtcienfbkcfhfcaaRows
import Derived.Test.YtcienfbkcfhfcaaCrcWakes
import Derived.Test.YtcienfbkcfhfcaaCrcPlainB
import Derived.Test.YtcienfbkcfhfcaaConv
import Derived.Test.YtcienfbkcfhfcaaKeep
import Derived.ProofKit
import Derived.OpenShut
import Derived.ShutString
import Derived.ChangeOld
import Derived.Below
set_option linter.unusedSimpArgs false
set_option linter.unusedVariables false
namespace Go.Proofs.Ytcienfbkcfhfcaa.crcTurned
open Go.ChangeShapes Go.WideShapes Go.ChangeAt Go.RowKit
open Go.ChangeMaps (open_string shut_string)
/-- One byte, one bit of it turned, as the walk reckons it. -/
theorem u8_flip (x : UInt8) (b : Nat) (hb : b < 8) : bits .xor .u8 (x.toNat : Int) (2 ^ b % 256 : Int) = ((x ^^^ UInt8.ofNat (2 ^ b)).toNat : Int) := by
  have hx := x.toNat_lt
  have h2 : 2 ^ b < 256 := by
    have := Nat.pow_lt_pow_right (a := 2) (by decide) hb
    simpa using this
  have h3 : ((2 : Int) ^ b % 256) = ((2 ^ b : Nat) : Int) := by
    rw [Int.natCast_pow]
    have : ((2 : Int) ^ b) = ((2 ^ b : Nat) : Int) := by rw [Int.natCast_pow]; rfl
    have h0 : 0 < 2 ^ b := Nat.two_pow_pos b
    rw [this]; omega
  rw [h3, u8_xor_nat _ _ (by omega) h2, UInt8.toNat_xor, UInt8.toNat_ofNat', Nat.mod_eq_of_lt (a := 2 ^ b) (by omega)]
theorem low_zero_iff (c : W32) (N f K : Nat) (l0 l : List UInt8) (h : runB (~~~0#32) l = runB (~~~0#32) l0 ^^^ stpN (N - f) (low c K)) :
    (tn (sumF l) != tn (sumF l0)) = (low c K != 0#32) := by
  unfold sumF againF
  rw [h]
  by_cases hz : low c K = 0#32
  · rw [hz, stpN_zero]; simp
  · have h1 : (low c K != 0#32) = true := by simpa using hz
    rw [h1, bne_iff_ne]
    intro e
    have e := tn_inj e
    apply hz
    refine stpN_inj (N - f) ?_
    have e2 := congrArg (fun x => ~~~x ^^^ runB (~~~0#32) l0) e
    simp only [BitVec.not_not] at e2
    generalize runB (~~~0#32) l0 = A at e2
    generalize stpN (N - f) (low c K) = B at e2
    rw [show A ^^^ B ^^^ A = B ^^^ (A ^^^ A) by ac_rfl] at e2
    simpa using e2
theorem low_ne (c : W32) (k : Nat) (hk : k < 32) (h : (c >>> k) &&& 1#32 = 1#32) : Value.bool true = Value.bool (low c (k + 1) != 0#32) := by
  have hb : c.getLsbD k = true := by
    rw [bit0, BitVec.getLsbD_ushiftRight, Nat.add_zero] at h
    revert h; cases c.getLsbD k <;> simp
  have : (low c (k + 1) != 0#32) = true := by
    rw [bne_iff_ne]
    intro e
    have e2 := congrArg (fun x : W32 => x.getLsbD k) e
    simp only [getLsbD_low c (k + 1) k (by omega), hb] at e2
    simp at e2
  rw [this]
theorem run_next (c : W32) (k f : Nat) (l l0 : List UInt8) (hk : k < 32) (hfk : f + k < 8 * l.length) (hq : (f + k) / 8 < l.length) (h : (c >>> k) &&& 1#32 = 1#32)
    (hr : runB (~~~0#32) l = runB (~~~0#32) l0 ^^^ stpN (8 * l.length - f) (low c k)) :
    runB (~~~0#32) (l.set ((f + k) / 8) (l[(f + k) / 8] ^^^ UInt8.ofNat (2 ^ ((f + k) % 8)))) = runB (~~~0#32) l0 ^^^ stpN (8 * l.length - f) (low c (k + 1)) := by
  have hd : l[(f + k) / 8] = l.getD ((f + k) / 8) 0 := by rw [List.getD_eq_getElem?_getD, List.getElem?_eq_getElem hq]; rfl
  rw [hd, run_flip _ l _ _ hq (Nat.mod_lt _ (by decide)), hr, low_succ c k hk, if_pos h, stpN_xor, BitVec.xor_assoc]
  congr 2
  have h2 := stpN_add (8 * l.length - (f + k)) k (1#32 <<< k)
  rw [stpN_bit k hk, show 8 * l.length - (f + k) + k = 8 * l.length - f by omega] at h2
  rw [h2]
  congr 1
  omega
attribute [local go_sem] mod_tn xor_tn and_one shr_tn
theorem u32_of_wf {n : Int} (h : (Lit.int .u32 n).wf = true) : ∃ c : W32, n = tn c := by
  have hx : 0 ≤ n ∧ n ≤ 4294967295 := by simpa [Lit.wf, IntKind.min, IntKind.max, IntKind.signed, IntKind.bits] using h
  exact ⟨_, of_int n hx.1 (by omega)⟩
theorem str_u : Try.prog.underlying 9 = some .string := by kernel_rfl
theorem sl_u8 : Try.prog.underlying 29 = some (.slice 5) := by kernel_rfl
theorem u8_u : Try.prog.underlying 5 = some (.int .u8) := by kernel_rfl
set_option maxRecDepth 100000 in
set_option maxHeartbeats 1000000 in
theorem walk (a0 : ByteArray) (w0 : a0.size ≤ maxLen) (a1 : Int) (w1 : (Lit.int .i64 a1).wf = true) (a2 : Int) (w2 : (Lit.int .u32 a2).wf = true) (w : World) :
    Calls Try.prog 5 #[.string a0, .int .i64 a1, .int .u32 a2] w fun e w' => e = .returned (.bool true) ∧ Below w.heap.size w w' := by
  obtain ⟨c, rfl⟩ := u32_of_wf w2
  have hz : -9223372036854775808 ≤ a1 ∧ a1 ≤ 9223372036854775807 := by simpa [Lit.wf, IntKind.min, IntKind.max, IntKind.signed, IntKind.bits] using w1
  clear w1 w2
  unfold maxLen at w0
  by_cases h : 20000 < a0.size
  · go_enter Try.func5, Try.ntmps5
    go_wp2_with (go_at_call 14; refine (wakes_any _).mono ?_; rintro e w' ⟨rfl, hb⟩)
    go_ret
    exact ⟨rfl, hb⟩
  · by_cases h' : a0.size = 0
    · have h0 : ((a0.size : Int) == 0) = true := by simp [h']
      have H' := Lib.hid h'; clear h'
      go_enter Try.func5, Try.ntmps5
      go_wp2_with (go_at_call 14; refine (wakes_any _).mono ?_; rintro e w' ⟨rfl, hb⟩)
      go_ret
      exact ⟨rfl, hb⟩
    · have h0 : ((a0.size : Int) == 0) = false := by rw [beq_eq_false_iff_ne]; omega
      have hd : decide (20000 < (a0.size : Int)) = false := by rw [decide_eq_false_iff_not]; omega
      go_enter Try.func5, Try.ntmps5
      go_wp2_with (first | ((with_reducible refine at_ofStr str_u sl_u8 u8_u a0 ?_ ?_); exact rfl; intro w1 cap hb1 hz1 hr1) | (go_at_call 20; refine (keepMod_any _ _ hz (by omega) (by omega) _).mono ?_; rintro e w2 ⟨rfl, rfl⟩))
      have hf0 : 0 ≤ a1 % (8 * (a0.size : Int)) := Int.emod_nonneg _ (by omega)
      have hf1 : a1 % (8 * (a0.size : Int)) < 8 * (a0.size : Int) := Int.emod_lt_of_pos _ (by omega)
      obtain ⟨f, hf⟩ := Int.eq_ofNat_of_zero_le hf0
      rw [hf] at hf0 hf1 ⊢
      clear hf hf0
      have hf2 : f < 8 * a0.size := by omega
      clear hf1
      have HZ := Lib.hid hz1
      clear hz1
      go_loopw [9, 10] (fun tb i wr => ∃ (k : Nat) (l : List UInt8), k ≤ 32 ∧ f + k ≤ 8 * a0.size ∧ i = .int .i64 k ∧ tb = .bool (low c k != 0#32) ∧ Below w.heap.size w wr ∧ w.heap.size < wr.heap.size ∧ RowB wr w.heap.size l ∧ l.length = a0.size ∧ runB (~~~0#32) l = runB (~~~0#32) a0.data.toList ^^^ stpN (8 * a0.size - f) (low c k)) (fun _ i _ => 32 - (intOf i).toNat)
      case atStart => exact ⟨0, a0.data.toList, by omega, by omega, rfl, by rw [low_zero]; rfl, hb1, by rw [HZ.out]; omega, hr1, by simp, by rw [low_zero, stpN_zero, BitVec.xor_zero]⟩
      case round =>
        clear hb1 hr1
        obtain ⟨k, l, hk, hfk, rfl, rfl, hb, hlt, hr, hl, hrun⟩ := hrel
        have HL := Lib.hid hl
        have HR := Lib.hid hrun
        clear hl hrun
        by_cases hk32 : k < 32
        · by_cases hin : f + k < 8 * a0.size
          · have hq : (f + k) / 8 < l.length := by rw [HL.out]; omega
            obtain ⟨hc1, hc2⟩ := hr _ hq
            by_cases hbit : (c >>> k) &&& 1#32 = 1#32
            · have h1 := tn_eq_one _ hbit
              have HB := Lib.hid hbit
              clear hbit
              go_wp2
              go_roundw
              case rel => exact ⟨k + 1, l.set ((f + k) / 8) (l[(f + k) / 8] ^^^ UInt8.ofNat (2 ^ ((f + k) % 8))), by omega, by omega, by go_num, low_ne c k hk32 HB.out, hb.setCell (p := ⟨w.heap.size, (f + k) / 8, none⟩) (Nat.le_refl _) _, by simpa using hlt, by rw [u8_flip _ _ (Nat.mod_lt _ (by decide))]; exact hr.set _ _ hq, by rw [List.length_set]; exact HL.out, by have h8 := HR.out; rw [← HL.out] at h8 ⊢; exact run_next c k f l _ hk32 (by rw [HL.out]; exact hin) hq HB.out h8⟩
              case measure => simp [intOf]; omega
            · have h1 := tn_ne_one _ hbit
              have HB := Lib.hid hbit
              clear hbit
              go_wp2
              go_roundw
              case rel => exact ⟨k + 1, l, by omega, by omega, by go_num, by rw [low_succ c k hk32, if_neg HB.out], hb, hlt, hr, HL.out, by rw [low_succ c k hk32, if_neg HB.out]; exact HR.out⟩
              case measure => simp [intOf]; omega
          · have HC := low_zero_iff c (8 * a0.size) f k a0.data.toList l HR.out
            have hs0 : a0.size ≤ 140737488351232 := by omega
            have hsl : (⟨l.toArray⟩ : ByteArray).size ≤ 140737488351232 := by
              show l.toArray.size ≤ _
              rw [List.size_toArray, HL.out]; omega
            go_wp2_with (first | ((with_reducible refine at_toStr sl_u8 u8_u str_u w.heap.size 0 cap l a0.size ?_ ?_ ?_ ?_); exact HL.out.symm; exact rfl; (intro j hj; rw [Nat.zero_add]; exact (hr j hj).1)) | (go_at_call 15; refine (sum_any _ _ (by first | exact hs0 | exact hsl)).mono ?_; rintro e w3 ⟨rfl, rfl⟩) | (go_at_call 14; refine (wakes_any _).mono ?_; rintro e w4 ⟨rfl, hb4⟩))
            go_ret
            exact ⟨rfl, hb.trans (hb4.mono hb.size)⟩
        · have hk3 : decide ((k : Int) < 32) = false := by rw [decide_eq_false_iff_not]; omega
          have HC := low_zero_iff c (8 * a0.size) f k a0.data.toList l HR.out
          have hs0 : a0.size ≤ 140737488351232 := by omega
          have hsl : (⟨l.toArray⟩ : ByteArray).size ≤ 140737488351232 := by
            show l.toArray.size ≤ _
            rw [List.size_toArray, HL.out]; omega
          go_wp2_with (first | ((with_reducible refine at_toStr sl_u8 u8_u str_u w.heap.size 0 cap l a0.size ?_ ?_ ?_ ?_); exact HL.out.symm; exact rfl; (intro j hj; rw [Nat.zero_add]; exact (hr j hj).1)) | (go_at_call 15; refine (sum_any _ _ (by first | exact hs0 | exact hsl)).mono ?_; rintro e w3 ⟨rfl, rfl⟩) | (go_at_call 14; refine (wakes_any _).mono ?_; rintro e w4 ⟨rfl, hb4⟩))
          go_ret
          exact ⟨rfl, hb.trans (hb4.mono hb.size)⟩
theorem own : ownKnob Try.prog.godebug = none := by kernel_rfl
theorem laidOut : laidOutB Try.prog = true := by kernel_rfl
set_option maxRecDepth 100000 in
theorem lifted (os : Os) (started : os.Started) (H : Type) (enc : TypeId × Value → H) :
    ReturnsInHanded {} Try.checked os 5 .any (Rows.crcTurnedSpec.pre6 enc Try.prog Try.f5 Rows.crcTurnedRow.domain false) (Rows.crcTurnedSpec.post enc Try.prog Try.f5 false true false false) := by
  refine returnsInHanded_of_change (C := Try.checked) own started (by kernel_rfl) Try.func5
    (ChangeSpec.witness6 (enc := enc) (C := Try.checked) false ⟨#[], #[.string ByteArray.empty, .int .i64 0, .int .u32 0], []⟩ 8 (by kernel_rfl) (by kernel_rfl) (by kernel_rfl) (by kernel_rfl)) ?_
  intro W base args ds gs before hval0 hW hcnd _
  have hval : ∀ (j : Nat) t v, Try.f5.params[j]? = some t → args[j]? = some v → Value.okWide Try.prog W .any base t v := hval0
  have hW' := hW
  obtain ⟨p, q, hA0, hV, rfl, hfz, hnd⟩ := hW
  have hA : DataW.TrodAll enc Try.prog W 0 (fun _ => true) true Try.f5.params.toList args.toList ds p := hA0
  rw [Try.params5] at hA hval
  obtain ⟨v0, vs0, d0, ds0, p0, q0, hargs, rfl, rfl, h0, r0⟩ := trodAll_cons hA
  obtain ⟨v1, vs1, d1, ds1, p1, q1, rfl, rfl, rfl, h1, r1⟩ := trodAll_cons r0
  obtain ⟨v2, vs2, d2, ds2, p2, q2, rfl, rfl, rfl, h2, r2⟩ := trodAll_cons r1
  obtain ⟨rfl, rfl, rfl⟩ := trodAll_nil r2
  obtain rfl : args = #[v0, v1, v2] := by cases args; simp_all
  obtain ⟨rfl, rfl⟩ := trodVars_none hV
  have k0 := h0
  have lt0 : ∀ x ∈ p0, x.block < W.heap.size := by obtain ⟨m, hm⟩ := k0; exact DataW.trod_lt m _ _ _ hm
  have k1 := h1
  have lt1 : ∀ x ∈ p1, x.block < W.heap.size := by obtain ⟨m, hm⟩ := k1; exact DataW.trod_lt m _ _ _ hm
  have k2 := h2
  have lt2 : ∀ x ∈ p2, x.block < W.heap.size := by obtain ⟨m, hm⟩ := k2; exact DataW.trod_lt m _ _ _ hm
  obtain ⟨a0, rfl, e0, f0, w0⟩ := open_string Try.underlying9 (hval 0 9 v0 rfl rfl) h0
  obtain ⟨a1, rfl, e1, f1, w1⟩ := open_int Try.underlying3 (hval 1 3 v1 rfl rfl) h1
  obtain ⟨a2, rfl, e2, f2, w2⟩ := open_int Try.underlying22 (hval 2 22 v2 rfl rfl) h2
  clear hA0 hval0
  refine (walk a0 w0 a1 w1 a2 w2 W).mono fun e W' ⟨he, bel⟩ => ?_
  subst he
  exact ⟨_, rfl, _, _, _, [], _, [], hW', trodAll_mk1 (shut_bool Try.underlying4 _), (trodAll_cons_mk (Below.trod laidOut (by kernel_rfl) (of_decide_eq_true (by kernel_rfl)) k0 bel lt0) (trodAll_cons_mk (Below.trod laidOut (by kernel_rfl) (of_decide_eq_true (by kernel_rfl)) k1 bel lt1) (trodAll_cons_mk (Below.trod laidOut (by kernel_rfl) (of_decide_eq_true (by kernel_rfl)) k2 bel lt2) trodAll_mk0))), rfl, bel.frame _, fun h => by cases h⟩
theorem over : Rows.crcTurnedRow.holds Try.pinned (OpenSpec.ofChange Rows.crcTurnedSpec) :=
  OpenClaim.holds_of_wide 5 Try.f5 rfl rfl rfl rfl rfl rfl rfl ⟨rfl, rfl, rfl, rfl, rfl⟩ rfl rfl rfl rfl rfl (by kernel_rfl) Try.func5 (by kernel_rfl)
    (of_decide_eq_true (by kernel_rfl)) (by unfold Func.isWrapper; first | (rw [if_pos (by decide +kernel)]; kernel_rfl) | (rw [if_neg (by decide +kernel)]; exact ⟨rfl, rfl⟩))
    (fun os started H enc _ => lifted os started H enc)
theorem proved : Rows.CrcTurnedSaid := over
#print axioms proved
end Go.Proofs.Ytcienfbkcfhfcaa.crcTurned
