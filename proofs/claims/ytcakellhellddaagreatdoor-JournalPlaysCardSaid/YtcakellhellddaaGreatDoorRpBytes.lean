import Derived.Test.YtcakellhellddaaGreatDoorRfNum
set_option linter.unusedSimpArgs false
set_option linter.unusedVariables false
namespace Go.Proofs.YtcakellhellddaaGreatDoor
open Go.RowKit
def leFill (n v i : Nat) : List UInt8 := leL i v ++ List.replicate (n - i) 0
theorem leFill_len (n v i : Nat) (hi : i ≤ n) : (leFill n v i).length = n := by unfold leFill; rw [List.length_append, leL_len, List.length_replicate]; omega
theorem leFill_set (n v i : Nat) (hi : i < n) : (leFill n v i).set i (UInt8.ofNat (v / 2 ^ (8 * i) % 256)) = leFill n v (i + 1) := by
  unfold leFill
  rw [List.set_append_right _ _ (by rw [leL_len]; exact Nat.le_refl _), leL_len, Nat.sub_self, show n - i = (n - (i + 1)) + 1 by omega, List.replicate_succ, List.set_cons_zero, leL_succ, List.append_assoc]
  rfl
theorem div256 (v i : Nat) : v / 2 ^ (8 * i) / 256 = v / 2 ^ (8 * (i + 1)) := by
  rw [Nat.div_div_eq_div_mul]; congr 1
  rw [show 8 * (i + 1) = 8 * i + 8 by omega, Nat.pow_add]
set_option maxHeartbeats 400000 in
theorem rpBytes_any (v n : Nat) (hn : n = 2 ∨ n = 4) (hv : v < 18446744073709551616) (w : World) :
    Calls Tryz.prog 71 #[.int .u64 v, .int .i64 n] w fun e w' => e = .returned (.string ⟨(leL n v).toArray⟩) ∧ Below w.heap.size w w' := by
  have hnb : n ≤ 4 := by omega
  clear hn
  go_enter Tryz.func71, Tryz.ntmps71
  go_wp2_with (first | ((with_reducible refine at_makeB sl_u8p u8_infop .i64 .i64 n ?_ ?_ ?_ ?_ ?_); exact rfl; exact rfl; omega; omega; intro w1 hb1 hz1 hr1; replace hr1 := Lib.hid hr1))
  go_loopw [0, 6] (fun y x wr => ∃ i : Nat, i ≤ n ∧ x = .int .i64 i ∧ y = .int .u64 (v / 2 ^ (8 * i) : Nat) ∧ Below w.heap.size w wr ∧ RowB wr w.heap.size (leFill n v i)) (fun _ x _ => n - (intOf x).toNat)
  case atStart => exact ⟨0, by omega, rfl, by simp, hb1, by simpa [leFill, leL] using hr1.out⟩
  case round =>
    clear hb1 hr1 hz1
    obtain ⟨i, hi, rfl, rfl, hb, hr⟩ := hrel
    have hlen := Lib.hid (leFill_len n v i hi)
    by_cases hlt : i < n
    · obtain ⟨c1, c2⟩ := hr i (by rw [hlen.out]; exact hlt)
      have hd := Lib.hid (div256 v i)
      have hset := Lib.hid (hr.set i (UInt8.ofNat (v / 2 ^ (8 * i) % 256)) (by rw [hlen.out]; exact hlt))
      have hx : Hid (((v / 2 ^ (8 * i) % 256 : Nat) : Int) = ((UInt8.ofNat (v / 2 ^ (8 * i) % 256)).toNat : Int)) := Lib.hid (by rw [UInt8.toNat_ofNat']; omega)
      have hq : v / 2 ^ (8 * i) < 18446744073709551616 := Nat.lt_of_le_of_lt (Nat.div_le_self _ _) hv
      obtain ⟨q, hqe⟩ : ∃ q, q = v / 2 ^ (8 * i) := ⟨_, rfl⟩
      rw [← hqe] at hq hd hx hset ⊢
      have HQ := Lib.hid hqe
      clear hqe hr
      have hset2 : Hid (RowB (wr.setCell ⟨w.heap.size, i, none⟩ (.int .u8 ((q : Int) % 256))) w.heap.size (leFill n v (i + 1))) := by
        have h1 := hset.out
        have h2 := leFill_set n v i hlt
        rw [← HQ.out] at h2
        rw [h2, ← hx.out] at h1
        have h3 : ((q % 256 : Nat) : Int) = (q : Int) % 256 := by omega
        rw [h3] at h1
        exact Lib.hid h1
      go_wp2
      refine ⟨⟨i + 1, by omega, by go_num, ?_, hb.setCell (p := ⟨w.heap.size, i, none⟩) (Nat.le_refl _) _, hset2.out⟩, ?_⟩
      · rw [← hd.out]; simp
      · simp [intOf]; omega
    · have hin : i = n := by omega
      have hf : Hid (leFill n v i = leL n v) := Lib.hid (by subst hin; simp [leFill])
      rw [hf.out] at hr
      have hll := leL_len n v
      go_wp2_with (first | ((with_reducible refine at_toStr sl_u8p u8_up str_up w.heap.size 0 n (leL n v) n ?_ ?_ ?_ ?_); exact (leL_len n v).symm; exact rfl; (intro j hj; rw [Nat.zero_add]; exact (hr j hj).1)))
      go_ret
      exact ⟨rfl, hb⟩
end Go.Proofs.YtcakellhellddaaGreatDoor
