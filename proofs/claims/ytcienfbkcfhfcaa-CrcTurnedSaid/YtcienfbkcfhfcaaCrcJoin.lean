import Derived.Test.YtcienfbkcfhfcaaCrcTwice
set_option linter.unusedSimpArgs false
set_option linter.unusedVariables false
namespace Go.Proofs.Ytcienfbkcfhfcaa
open Go.RowKit
attribute [local go_sem] xor_tn xor_nat
/-- What a sum becomes. -/
def joinF (a b : W32) (n : Nat) : W32 := stpN (8 * n) a ^^^ b
theorem and1_i64 (m : Nat) (h : m < 9223372036854775808) : bits .and .i64 (m : Int) 1 = ((m % 2 : Nat) : Int) := by
  have := bits_mask .i64 63 (by decide) (fun x h0 h1 => by rw [IntKind.wrap_i64]; omega) 1 (by decide) (m : Int) (by omega) (by omega)
  have e : ((2 : Int) ^ 1 - 1) = 1 := by decide
  rw [e] at this
  rw [this]; simp
theorem of_below (m : List W32) (hm : m.length = 32) (x : W32) (w : World) :
    Calls Try.prog 55 #[.agg (mrow m), .int .u32 (tn x)] w fun e w' => e = .returned (.int .u32 (tn (ofF m x))) ∧ Below w.heap.size w w' :=
  (of_any m hm x w).mono fun _ _ ⟨he, hw⟩ => ⟨he, by subst hw; exact (Below.refl _ _).alloc (Nat.le_refl _) _⟩
theorem one_below (w : World) : Calls Try.prog 53 #[] w fun e w' => e = .returned (.agg (mrow (oneN 32))) ∧ Below w.heap.size w w' :=
  (one_any w).mono fun _ _ ⟨he, hw⟩ => ⟨he, by subst hw; exact ((Below.refl _ _).alloc (Nat.le_refl _) _).alloc (by simp) _⟩
theorem join_neg (a b : W32) (n : Int) (hn : n < 0) (w : World) :
    Calls Try.prog 19 #[.int .u32 (tn a), .int .u32 (tn b), .int .i64 n] w fun e w' => e = .returned (.int .u32 (tn 0#32)) ∧ Below w.heap.size w w' := by
  go_enter Try.func19, Try.ntmps19
  go_wp2
  go_ret
  exact ⟨rfl, Below.refl _ _⟩
set_option maxHeartbeats 400000 in
theorem join_any (a b : W32) (n : Nat) (hn : n < 9223372036854775808) (w : World) :
    Calls Try.prog 19 #[.int .u32 (tn a), .int .u32 (tn b), .int .i64 n] w fun e w' => e = .returned (.int .u32 (tn (joinF a b n))) ∧ Below w.heap.size w w' := by
  have hn0 : decide ((n : Int) < 0) = false := by simp
  go_enter Try.func19, Try.ntmps19
  go_wp2_with (first | (go_at_call 53; refine (one_below _).mono ?_; rintro e w1 ⟨rfl, hb1⟩) | (with_reducible refine at_allocM ?_) | ((with_reducible refine at_storeM_new z32 (oneN 32) w1.heap.size ?_ ?_ ?_ ?_ ?_ ?_); exact rfl; exact rfl; exact rfl; exact z32_len; exact oneN_len _))
  obtain ⟨g, hg⟩ : ∃ g : Nat, g = w1.heap.size := ⟨_, rfl⟩
  have hB : w.heap.size ≤ g := by rw [hg]; exact hb1.size
  have hb0 : Below w.heap.size w (w1.alloc (.cells (mrow (oneN 32)) 93)) := hb1.alloc hb1.size _
  have hk0 : Blk (w1.alloc (.cells (mrow (oneN 32)) 93)) g (mrow (oneN 32)) 93 := Blk.new' _ _ _ hg
  rw [← hg]
  obtain ⟨w2, hw2⟩ : ∃ w2, w2 = w1.alloc (.cells (mrow (oneN 32)) 93) := ⟨_, rfl⟩
  rw [← hw2] at hb0 hk0 ⊢
  clear hw2 hg hb1
  go_loopw [11] (fun i wr => ∃ k : Nat, k ≤ 3 ∧ i = .int .i64 k ∧ Below w.heap.size w wr ∧ ∃ M, Mat M (2 ^ k) ∧ Blk wr g (mrow M) 93) (fun i _ => 3 - (intOf i).toNat)
  case atStart => exact ⟨0, by omega, rfl, hb0, _, Mat.one, hk0⟩
  case round =>
    clear hb0 hk0
    obtain ⟨k, hk, rfl, hb, M, HM, h0⟩ := hrel
    have HB := Lib.hid hB
    by_cases hlt : k < 3
    · go_wp2_with (first | ((with_reducible refine at_loadM g M ?_ ?_ ?_ ?_); exact rfl; exact h0; exact HM.1) | (go_at_call 54; refine (twice_any M HM.1 _).mono ?_; rintro e w3 ⟨rfl, hb3⟩) | ((with_reducible refine at_storeM g M (twF M) ?_ ?_ ?_ ?_ ?_ ?_); exact rfl; exact rfl; exact h0.below hb3 h0.lt; exact HM.1; exact twF_len _))
      go_roundw
      case rel => exact ⟨k + 1, by omega, by go_num, below_setRow (hb.trans (hb3.mono hb.size)) HB.out _, twF M, by rw [Nat.pow_succ, Nat.mul_two]; exact HM.twice, (h0.below hb3 h0.lt).setRow _⟩
      case measure => simp [intOf]; omega
    · have hk3 : k = 3 := by omega
      have HM := (show Mat M 8 by rw [hk3] at HM; exact HM)
      have hk4 : decide ((k : Int) < 3) = false := by rw [hk3]; rfl
      have HN := Lib.hid hn
      clear hk3
      go_wp2
      clear hk4
      go_loopw [0, 2] (fun x i wr => ∃ (j m : Nat) (y : W32), i = .int .i64 m ∧ m = n / 2 ^ j ∧ x = .int .u32 (tn y) ∧ y = stpN (8 * (n % 2 ^ j)) a ∧ Below w.heap.size w wr ∧ ∃ M, Mat M (8 * 2 ^ j) ∧ Blk wr g (mrow M) 93) (fun _ i _ => (intOf i).toNat)
      case atStart => exact ⟨0, n, a, rfl, by simp, rfl, by simp [Nat.mod_one, stpN], hb, M, HM, h0⟩
      case round =>
        clear h0 hb
        obtain ⟨j, m, y, rfl, hm, rfl, hy, hb, M, HM, h0⟩ := hrel
        have HM0 := Lib.hid hm
        have HY := Lib.hid hy
        have hm1 : m < 9223372036854775808 := by rw [hm]; exact Nat.lt_of_le_of_lt (Nat.div_le_self _ _) HN.out
        clear hm hy hn
        by_cases hlt : 0 < m
        · have hd : ((m : Int) / 2) = ((m / 2 : Nat) : Int) := by simp
          have HM1 : Hid (m / 2 = n / 2 ^ (j + 1)) := by
            refine Lib.hid ?_
            rw [HM0.out, Nat.div_div_eq_div_mul, ← Nat.pow_succ]
          have HR : Hid (n % 2 ^ (j + 1) = m % 2 * 2 ^ j + n % 2 ^ j) := by
            refine Lib.hid ?_
            rw [Nat.pow_succ, Nat.mod_mul, HM0.out, Nat.mul_comm (2 ^ j), Nat.add_comm]
          have HD := Lib.hid hd; clear hd
          by_cases ho : m % 2 = 1
          · have hA : bits .and .i64 (m : Int) 1 = 1 := by rw [and1_i64 m hm1, ho]; rfl
            have HO := Lib.hid ho; clear ho
            go_wp2_with (first | ((with_reducible refine at_loadM g M ?_ ?_ ?_ ?_); exact rfl; exact h0; exact HM.1) | (go_at_call 55; refine (of_below M HM.1 _ _).mono ?_; rintro e w3 ⟨rfl, hb3⟩) | ((with_reducible refine at_loadM g M ?_ ?_ ?_ ?_); exact rfl; exact h0.below hb3 h0.lt; exact HM.1) | (go_at_call 54; refine (twice_any M HM.1 _).mono ?_; rintro e w4 ⟨rfl, hb4⟩) | ((with_reducible refine at_storeM g M (twF M) ?_ ?_ ?_ ?_ ?_ ?_); exact rfl; exact rfl; exact (h0.below hb3 h0.lt).below hb4 (h0.below hb3 h0.lt).lt; exact HM.1; exact twF_len _))
            go_roundw
            case rel => exact ⟨j + 1, m / 2, ofF M y, by rw [← HD.out], HM1.out, rfl, by rw [HM.of, HY.out, ← stpN_add, HR.out, HO.out]; congr 1; omega, below_setRow ((hb.trans (hb3.mono hb.size)).trans (hb4.mono (hb.trans (hb3.mono hb.size)).size)) HB.out _, twF M, by rw [Nat.pow_succ, Nat.mul_two, Nat.mul_add]; exact HM.twice, ((h0.below hb3 h0.lt).below hb4 (h0.below hb3 h0.lt).lt).setRow _⟩
            case measure => simp [intOf]; omega
          · have ho : m % 2 = 0 := by omega
            have hA : bits .and .i64 (m : Int) 1 = 0 := by rw [and1_i64 m hm1, ho]; rfl
            have HO := Lib.hid ho; clear ho
            go_wp2_with (first | ((with_reducible refine at_loadM g M ?_ ?_ ?_ ?_); exact rfl; exact h0; exact HM.1) | (go_at_call 54; refine (twice_any M HM.1 _).mono ?_; rintro e w4 ⟨rfl, hb4⟩) | ((with_reducible refine at_storeM g M (twF M) ?_ ?_ ?_ ?_ ?_ ?_); exact rfl; exact rfl; exact h0.below hb4 h0.lt; exact HM.1; exact twF_len _))
            go_roundw
            case rel => exact ⟨j + 1, m / 2, y, by rw [← HD.out], HM1.out, rfl, by rw [HY.out, HR.out, HO.out]; congr 1; omega, below_setRow (hb.trans (hb4.mono hb.size)) HB.out _, twF M, by rw [Nat.pow_succ, Nat.mul_two, Nat.mul_add]; exact HM.twice, (h0.below hb4 h0.lt).setRow _⟩
            case measure => simp [intOf]; omega
        · have hz : m = 0 := by omega
          subst hz
          go_wp2
          go_ret
          refine ⟨?_, hb⟩
          have hq : n < 2 ^ j := by
            have h := HM0.out
            rcases Nat.lt_or_ge n (2 ^ j) with h1 | h1
            · exact h1
            · have := Nat.div_pos h1 (Nat.two_pow_pos j); omega
          rw [HY.out, Nat.mod_eq_of_lt hq]; rfl
end Go.Proofs.Ytcienfbkcfhfcaa
