import Derived.Test.YtcakellhellddaaGreatDoorDiskPlain
import Derived.Test.YtcakellhellddaaGreatDoorFrPlain2
import Derived.Test.YtcakellhellddaaGreatDoorDiskFns
import Derived.Test.YtcakellhellddaaGreatDoorFrFns
set_option linter.unusedSimpArgs false
set_option linter.unusedVariables false
namespace Go.Proofs.YtcakellhellddaaGreatDoor
/-! A journal, as data: over a disk's data (DM). -/
def jsize (m : DM) : Nat := if m.S.length < 8 ∨ m.S.length % 2 ≠ 0 then 0 else (m.S.length - 2) / 2
/-- How many sectors a text's record has, if it goes into so many; the error's number. -/
def fitsF (s : ByteArray) (room : Int) : Int × Int := if 60000 < s.size then (0, 2) else if room < (sizeN s.size : Int) then (0, 73) else (sizeN s.size, 0)
def firstF (m : DM) (area : Nat) : Nat := 2 + area * jsize m
def headB (area : Nat) : ByteArray := ⟨#[74, UInt8.ofNat area]⟩
/-- Sectors written from a place on, the last one first, up to the first error: the first n of l. -/
def wrF (m : DM) (at_ : Int) (l : List ByteArray) : Nat → DM × Int
  | 0 => (m, 0)
  | i + 1 => if (m.write (at_ + i) (l.getD i ByteArray.empty)).2 ≠ 0 then m.write (at_ + i) (l.getD i ByteArray.empty) else wrF (m.write (at_ + i) (l.getD i ByteArray.empty)).1 at_ l i
def writeF (m : DM) (at_ : Int) (num : Nat) (s : ByteArray) : DM × Int := if (makeF num s).2 ≠ 0 then (m, (makeF num s).2) else wrF m at_ (makeF num s).1 (makeF num s).1.length
def beginF (m : DM) (area num : Nat) (base : ByteArray) : DM × Int :=
  if (writeF m (firstF m area) num base).2 ≠ 0 then writeF m (firstF m area) num base else writeF (writeF m (firstF m area) num base).1 area num (headB area)
theorem wrF_wf {m : DM} (h : m.wf) (at_ : Int) (l : List ByteArray) : ∀ n, (wrF m at_ l n).1.wf := by
  intro n
  induction n generalizing m with
  | zero => exact h
  | succ n ih =>
    unfold wrF
    split
    · exact DM.write_wf h _ _
    · exact ih (DM.write_wf h _ _)
theorem writeF_wf {m : DM} (h : m.wf) (at_ : Int) (num : Nat) (s : ByteArray) : (writeF m at_ num s).1.wf := by
  unfold writeF; split
  · exact h
  · exact wrF_wf h _ _ _
end Go.Proofs.YtcakellhellddaaGreatDoor
namespace Go.Proofs.YtcakellhellddaaGreatDoor
open Go.RowKit
theorem jsize_any (b mb : Nat) (m : DM) (w : World) (h : DiskAt w b mb m) :
    Calls Tryz.prog 32 #[.pointer (some ⟨b, 0, none⟩)] w fun e w' => e = .returned (.int .i64 (jsize m : Int)) ∧ w' = w := by
  have HD := Lib.hid h
  have hlen := h.wf.len
  obtain ⟨n, hn⟩ : ∃ n, n = m.S.length := ⟨_, rfl⟩
  rw [← hn] at hlen
  have HN := Lib.hid hn
  clear h hn
  go_enter Tryz.func32, Tryz.ntmps32
  go_wp2_with fail
  refine (size_any b mb m _ HD.out).mono ?_
  rintro e w1 ⟨rfl, hw1⟩
  have hw1 := hw1.symm
  subst hw1
  rw [← HN.out]
  by_cases h8 : n < 8
  · have g1 : (n : Int) < 8 := by omega
    have hj : Hid (jsize m = 0) := Lib.hid (by unfold jsize; rw [← HN.out, if_pos (.inl h8)])
    clear h8
    go_wp2_with fail
    go_ret
    exact ⟨by rw [hj.out]; rfl, rfl⟩
  have g1 : ¬ (n : Int) < 8 := by omega
  go_wp2_with fail
  refine (size_any b mb m _ HD.out).mono ?_
  rintro e w1 ⟨rfl, hw1⟩
  have hw1 := hw1.symm
  subst hw1
  rw [← HN.out]
  by_cases h2 : n % 2 = 0
  · have g2 : (n : Int) % 2 = 0 := by omega
    have g3 : Int.tmod (n : Int) 2 = 0 := by rw [Int.tmod_eq_emod_of_nonneg (by omega)]; exact g2
    have hj : Hid (jsize m = (n - 2) / 2) := Lib.hid (by unfold jsize; rw [← HN.out, if_neg (by omega)])
    clear h2
    go_wp2_with fail
    refine (size_any b mb m _ HD.out).mono ?_
    rintro e w1 ⟨rfl, hw1⟩
    have hw1 := hw1.symm
    subst hw1
    rw [← HN.out]
    clear g2 g3
    go_wp2_with fail
    go_ret
    refine ⟨?_, rfl⟩
    rw [hj.out]
    show Ending.returned (Value.int .i64 (((n : Int) - 2) / 2)) = Ending.returned (Value.int .i64 (((n - 2) / 2 : Nat) : Int))
    congr 2
    omega
  · have g2 : (n : Int) % 2 = 1 := by omega
    have g3 : Int.tmod (n : Int) 2 = 1 := by rw [Int.tmod_eq_emod_of_nonneg (by omega)]; exact g2
    have hj : Hid (jsize m = 0) := Lib.hid (by unfold jsize; rw [← HN.out, if_pos (.inr h2)])
    clear h2
    go_wp2_with fail
    go_ret
    exact ⟨by rw [hj.out]; rfl, rfl⟩
theorem jsize_nil (w : World) : Calls Tryz.prog 32 #[.pointer none] w fun e w' => e = .returned (.int .i64 0) ∧ w' = w := by
  go_enter Tryz.func32, Tryz.ntmps32
  go_wp2_with fail
  refine (size_nil _).mono ?_
  rintro e w1 ⟨rfl, hw1⟩
  have hw1 := hw1.symm
  subst hw1
  go_wp2_with fail
  go_ret
  exact ⟨rfl, rfl⟩
theorem jsize_le {m : DM} (h : m.wf) : jsize m ≤ 2047 := by
  have := h.len
  unfold jsize; split <;> omega
theorem first_any (b mb : Nat) (m : DM) (area : Nat) (ha : area ≤ 1) (w : World) (h : DiskAt w b mb m) :
    Calls Tryz.prog 50 #[.pointer (some ⟨b, 0, none⟩), .int .i64 area] w fun e w' => e = .returned (.int .i64 (firstF m area : Int)) ∧ w' = w := by
  have HD := Lib.hid h
  have hjl := jsize_le h.wf
  obtain ⟨z, hz⟩ : ∃ z, z = jsize m := ⟨_, rfl⟩
  rw [← hz] at hjl
  have HZ := Lib.hid hz
  clear h hz
  obtain ⟨f, hf⟩ : ∃ f, f = 2 + area * z := ⟨_, rfl⟩
  have ha0 : area = 0 ∨ area = 1 := by omega
  have m1 : IntKind.i64.wrap ((area : Int) * (z : Int)) = ((area * z : Nat) : Int) := by
    rcases ha0 with rfl | rfl <;> (rw [IntKind.wrap_i64]; omega)
  have m2 : IntKind.i64.wrap (2 + ((area * z : Nat) : Int)) = (f : Int) := by
    rcases ha0 with rfl | rfl <;> (rw [IntKind.wrap_i64]; omega)
  have hff : Hid (firstF m area = f) := Lib.hid (by unfold firstF; rw [← HZ.out, hf])
  obtain ⟨az, haz⟩ : ∃ az, az = area * z := ⟨_, rfl⟩
  rw [← haz] at m1 m2
  clear hf ha0 haz ha
  go_enter Tryz.func50, Tryz.ntmps50
  go_wp2_with fail
  refine (jsize_any b mb m _ HD.out).mono ?_
  rintro e w1 ⟨rfl, hw1⟩
  have hw1 := hw1.symm
  subst hw1
  rw [← HZ.out]
  go_wp2_with fail
  go_ret
  exact ⟨by rw [hff.out]; rfl, rfl⟩
theorem fits_any (s : ByteArray) (room : Int) (w : World) :
    Calls Tryz.prog 33 #[.string s, .int .i64 room] w fun e w' => e = .returned (.tuple #[.int .i64 (fitsF s room).1, .int .i64 (fitsF s room).2]) ∧ w' = w := by
  go_enter Tryz.func33, Tryz.ntmps33
  go_wp2_with fail
  refine (frSize_any (s.size : Int) _).mono ?_
  rintro e w1 ⟨rfl, hw1⟩
  have hw1 := hw1.symm
  subst hw1
  by_cases hb : 60000 < s.size
  · have h0 : sizeF (s.size : Int) = 0 := by unfold sizeF; rw [if_neg (by omega)]
    have hf : Hid (fitsF s room = (0, 2)) := Lib.hid (by unfold fitsF; rw [if_pos hb])
    rw [h0]
    clear h0 hb
    go_wp2_with fail
    go_ret2
    exact ⟨by rw [hf.out]; rfl, rfl⟩
  · rw [sizeF_nat (by omega)]
    have hp := sizeN_pos s.size
    obtain ⟨z, hz⟩ : ∃ z, z = sizeN s.size := ⟨_, rfl⟩
    rw [← hz] at hp ⊢
    have g1 : ((z : Int) == 0) = false := by simpa using (by omega : ¬ ((z : Int) = 0))
    by_cases hr : room < (z : Int)
    · have hf : Hid (fitsF s room = (0, 73)) := Lib.hid (by unfold fitsF; rw [if_neg hb, ← hz, if_pos hr])
      clear hb hz
      go_wp2_with fail
      go_ret2
      exact ⟨by rw [hf.out]; rfl, rfl⟩
    · have hf : Hid (fitsF s room = ((z : Int), 0)) := Lib.hid (by unfold fitsF; rw [if_neg hb, ← hz, if_neg hr])
      clear hb hz
      go_wp2_with fail
      go_ret2
      exact ⟨by rw [hf.out]; rfl, rfl⟩
end Go.Proofs.YtcakellhellddaaGreatDoor
