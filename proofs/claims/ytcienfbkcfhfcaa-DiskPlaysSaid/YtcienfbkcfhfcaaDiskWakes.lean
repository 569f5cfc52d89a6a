import Derived.Test.YtcienfbkcfhfcaaDiskWr
import Derived.Test.YtcienfbkcfhfcaaKeep2
set_option linter.unusedSimpArgs false
set_option linter.unusedVariables false
namespace Go.Proofs.Ytcienfbkcfhfcaa
open Go.RowKit
def blkB (b : UInt8) : ByteArray := ⟨(List.replicate 256 b).toArray⟩
theorem blkB_size (b : UInt8) : (blkB b).size = 256 := by
  show (List.replicate 256 b).toArray.size = 256
  rw [List.size_toArray, List.length_replicate]
def fillB (b : UInt8) (k : Nat) : List UInt8 := List.replicate k b ++ List.replicate (256 - k) 0
theorem fillB_len (b : UInt8) (k : Nat) (hk : k ≤ 256) : (fillB b k).length = 256 := by unfold fillB; rw [List.length_append, List.length_replicate, List.length_replicate]; omega
theorem fillB_set (b : UInt8) (k : Nat) (hk : k < 256) : (fillB b k).set k b = fillB b (k + 1) := by
  unfold fillB
  rw [List.set_append_right _ _ (by rw [List.length_replicate]; exact Nat.le_refl _), List.length_replicate, Nat.sub_self]
  rw [show 256 - k = (256 - (k + 1)) + 1 by omega, List.replicate_succ, List.set_cons_zero, List.replicate_succ', List.append_assoc]
  rfl
theorem fillB_all (b : UInt8) : fillB b 256 = List.replicate 256 b := by unfold fillB; rw [Nat.sub_self]; exact List.append_nil _
set_option maxRecDepth 100000 in
set_option maxHeartbeats 400000 in
theorem block_any (b : UInt8) (w : World) :
    Calls Try.prog 36 #[.int .u8 (b.toNat : Int)] w fun e w' => e = .returned (.string (blkB b)) ∧ Below w.heap.size w w' := by
  go_enter Try.func36, Try.ntmps36
  go_wp2_with (first | ((with_reducible refine at_makeB sl_u8 u8_info .i64 .i64 256 ?_ ?_ ?_ ?_ ?_); exact rfl; exact rfl; omega; omega; intro w1 hb1 hz1 hr1; replace hr1 := Lib.hid hr1))
  go_loopw [4] (fun i wr => ∃ k : Nat, k ≤ 256 ∧ i = .int .i64 k ∧ Below w.heap.size w wr ∧ RowB wr w.heap.size (fillB b k)) (fun i _ => 256 - (intOf i).toNat)
  case atStart => exact ⟨0, by omega, rfl, hb1, hr1.out⟩
  case round =>
    clear hb1 hr1 hz1
    obtain ⟨k, hk, rfl, hb, hr⟩ := hrel
    have hlen := Lib.hid (fillB_len b k hk)
    by_cases hlt : k < 256
    · obtain ⟨c1, c2⟩ := hr k (by rw [hlen.out]; exact hlt)
      go_wp2
      go_roundw
      case rel => exact ⟨k + 1, by omega, by go_num, hb.setCell (p := ⟨w.heap.size, k, none⟩) (Nat.le_refl _) _, by rw [← fillB_set b k hlt]; exact hr.set k b (by rw [hlen.out]; exact hlt)⟩
      case measure => simp [intOf]; omega
    · have hk2 : k = 256 := by omega
      have hf := Lib.hid (show fillB b k = List.replicate 256 b by rw [hk2]; exact fillB_all b)
      clear hk2
      go_wp2_with (first | ((with_reducible refine at_toStr sl_u8 u8_u str_u w.heap.size 0 256 (List.replicate 256 b) 256 ?_ ?_ ?_ ?_); exact List.length_replicate.symm; exact rfl; (intro j hj; rw [Nat.zero_add]; rw [hf.out] at hr; exact (hr j hj).1)))
      go_ret
      exact ⟨rfl, hb⟩
/-- The law's own example, on data alone. -/
def wk1 : DM := ((dNew 8).arm 0 3).1
def wk2 : DM := (wk1.write 0 (blkB 97)).1
def wk3 : DM := wk2.start
theorem wk_a : ((dNew 8).arm 0 3).2 = 0 := by decide
theorem wk_b : (wk1.write 0 (blkB 97)).2 = 74 := by decide +kernel
theorem wk_c : wk2.dead = true := by decide +kernel
theorem wk_d : (wk3.read 0).2 = 0 := by decide +kernel
def aaa : ByteArray := ⟨#[97, 97, 97]⟩
theorem wk_e : (wk3.read 0).1 = (⟨#[97, 97, 97]⟩ : ByteArray) ++ zerosB 253 := by
  show _ = aaa ++ zerosB 253
  have h : (wk3.read 0).1.data.toList = (aaa ++ zerosB 253).data.toList := by decide +kernel
  exact ByteArray.ext (Array.toList_inj.1 h)
theorem wk_f : wk3.S.length = 8 := by decide +kernel
theorem wk_g : wk3.writes = 0 := by decide +kernel
theorem block_num (n : Int) (b : UInt8) (hn : n = (b.toNat : Int)) (w : World) :
    Calls Try.prog 36 #[.int .u8 n] w fun e w' => e = .returned (.string (blkB b)) ∧ Below w.heap.size w w' := by
  subst hn; exact block_any b w
/-- A disk is a disk behind what is made. -/
theorem DiskAt.grown {w w' : World} {b mb : Nat} {m : DM} (h : DiskAt w b mb m) (hb : Below w.heap.size w w') : DiskAt w' b mb m :=
  h.only (S := fun _ => False) (Only.of_below hb) (fun h => h) (fun h => h)
set_option maxRecDepth 100000 in
set_option maxHeartbeats 1000000 in
theorem wakes11_any (w : World) : Calls Try.prog 22 #[] w fun e w' => e = .returned (.bool true) ∧ Below w.heap.size w w' := by
  have Ha := Lib.hid wk_a
  have Hb := Lib.hid wk_b
  have Hc := Lib.hid wk_c
  have Hd := Lib.hid wk_d
  have He := Lib.hid wk_e
  have Hf := Lib.hid wk_f
  have Hg := Lib.hid wk_g
  go_enter Try.func22, Try.ntmps22
  go_wp2_with fail
  refine (new_any 8 (by decide) (by decide) _).mono ?_
  rintro e w1 ⟨b, mb, rfl, hd1, hb1, hg1, hg2⟩
  go_wp2_with fail
  refine (arm_any b mb _ 0 3 w1 hd1).mono ?_
  rintro e w2 ⟨rfl, hd2, ho2⟩
  rw [Ha.out]
  go_wp2_with fail
  refine (block_num 97 97 rfl _).mono ?_
  rintro e w3 ⟨rfl, hb3⟩
  go_wp2_with fail
  refine (write_any b mb wk1 0 (blkB 97) w3 (hd2.grown hb3) (by rw [blkB_size]; decide)).mono ?_
  rintro e w4 ⟨rfl, hd4, ho4⟩
  rw [Hb.out]
  go_wp2_with fail
  refine (dead_any b mb wk2 w4 hd4).mono ?_
  rintro e w5 ⟨rfl, hw5⟩
  have hw5 := hw5.symm
  subst hw5
  rw [Hc.out]
  go_wp2_with fail
  refine (start_any b mb wk2 w4 hd4).mono ?_
  rintro e w6 ⟨rfl, hd6, ho6⟩
  go_wp2_with fail
  refine (read_any b mb wk3 0 w6 hd6).mono ?_
  rintro e w7 ⟨rfl, hb7⟩
  rw [Hd.out]
  go_wp2_with fail
  rw [He.out]
  refine (zeros_any 253 (by decide) _).mono ?_
  rintro e w8 ⟨rfl, hb8⟩
  have hzz : (zerosB 253).size = 253 := rfl
  go_wp2_with fail
  have hd8 : DiskAt w8 b mb wk3 := (hd6.grown hb7).grown hb8
  refine (size_any b mb wk3 w8 hd8).mono ?_
  rintro e w9 ⟨rfl, hw9⟩
  have hw9 := hw9.symm
  subst hw9
  rw [Hf.out]
  go_wp2_with fail
  refine (writes_any b mb wk3 w8 hd8).mono ?_
  rintro e w9 ⟨rfl, hw9⟩
  have hw9 := hw9.symm
  subst hw9
  rw [Hg.out]
  go_wp2_with fail
  go_ret
  have hn : ∀ k, k < w.heap.size → ¬ own2 b mb k := fun k hk h => by rcases h with rfl | rfl <;> omega
  have q2 := hb1.trans (ho2.below hb1.size hn)
  have q3 := q2.trans (hb3.mono q2.size)
  have q4 := q3.trans (ho4.below q3.size hn)
  have q6 := q4.trans (ho6.below q4.size hn)
  have q7 := q6.trans (hb7.mono q6.size)
  exact ⟨rfl, q7.trans (hb8.mono q7.size)⟩
end Go.Proofs.Ytcienfbkcfhfcaa
