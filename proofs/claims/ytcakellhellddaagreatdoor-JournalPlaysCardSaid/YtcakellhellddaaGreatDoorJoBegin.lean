import Derived.Test.YtcakellhellddaaGreatDoorJoWrite
set_option linter.unusedSimpArgs false
set_option linter.unusedVariables false
namespace Go.Proofs.YtcakellhellddaaGreatDoor
open Go.RowKit
theorem head_any (area : Nat) (ha : area ≤ 1) (w : World) : Calls Tryz.prog 60 #[.int .i64 area] w fun e w' => e = .returned (.string (headB area)) ∧ Below w.heap.size w w' := by
  have mw : IntKind.u8.wrap (area : Int) = (area : Int) := by
    rcases (by omega : area = 0 ∨ area = 1) with rfl | rfl <;> rfl
  have hu := Blk.new w #[.int .u8 74, .int .u8 (area : Int)] 5
  have hl : (⟨[74, UInt8.ofNat area].toArray⟩ : ByteArray) = headB area := rfl
  have hc : ∀ j (hj : j < [(74 : UInt8), UInt8.ofNat area].length), (w.alloc (.cells #[.int .u8 74, .int .u8 (area : Int)] 5)).cell? ⟨w.heap.size, 0 + j, none⟩ = some (.int .u8 ([(74 : UInt8), UInt8.ofNat area][j].toNat : Int)) := by
    intro j hj
    rw [Nat.zero_add, hu.cell j]
    match j, hj with
    | 0, _ => rfl
    | 1, _ => rcases (by omega : area = 0 ∨ area = 1) with rfl | rfl <;> rfl
  have HC := Lib.hid hc
  clear hc hu ha
  go_enter Tryz.func60, Tryz.ntmps60
  go_wp2_with (first | ((with_reducible refine at_toStr sl_u8p u8_up str_up w.heap.size 0 2 [74, UInt8.ofNat area] 2 ?_ ?_ ?_ ?_); exact rfl; exact rfl; exact HC.out))
  go_ret
  exact ⟨by rw [← hl]; rfl, (Below.refl _ _).alloc (Nat.le_refl _) _⟩
theorem writeF_len (m : DM) (at_ : Int) (num : Nat) (s : ByteArray) : (writeF m at_ num s).1.S.length = m.S.length := by
  have hw : ∀ (m : DM) (i : Int) (x : ByteArray), (m.write i x).1.S.length = m.S.length := by
    intro m i x
    unfold DM.write
    split
    · rfl
    · split
      · rfl
      · split
        · show (m.S.set _ _).length = _; rw [List.length_set]
        · show (m.S.set _ _).length = _; rw [List.length_set]
  have key : ∀ (n : Nat) (m : DM) (l : List ByteArray), (wrF m at_ l n).1.S.length = m.S.length := by
    intro n
    induction n with
    | zero => intro m l; rfl
    | succ n ih =>
      intro m l
      unfold wrF
      split
      · exact hw _ _ _
      · rw [ih, hw]
  unfold writeF
  split
  · rfl
  · exact key _ _ _
set_option maxHeartbeats 1000000 in
theorem begin_any (b mb : Nat) (m : DM) (area : Nat) (ha : area ≤ 1) (num : Nat) (hn : num < 4294967296) (base : ByteArray) (w : World) (h : DiskAt w b mb m) :
    Calls Tryz.prog 37 #[.pointer (some ⟨b, 0, none⟩), .int .i64 area, .int .u32 num, .string base] w fun e w' => e = .returned (.int .i64 (beginF m area num base).2) ∧ DiskAt w' b mb (beginF m area num base).1 ∧ Only (own2 b mb) w w' := by
  have HD := Lib.hid h
  have hjl := jsize_le h.wf
  have hff : firstF m area ≤ 100000 := by
    unfold firstF
    rcases (by omega : area = 0 ∨ area = 1) with rfl | rfl <;> omega
  have HF := Lib.hid hff
  obtain ⟨lb, lmb⟩ := h.lt
  clear h hjl hff
  go_enter Tryz.func37, Tryz.ntmps37
  go_wp2_with fail
  refine (first_any b mb m area ha _ HD.out).mono ?_
  rintro e w1 ⟨rfl, hw1⟩
  have hw1 := hw1.symm
  subst hw1
  go_wp2_with fail
  refine (jwrite_any b mb m (firstF m area : Int) (by have := HF.out; omega) num hn base _ HD.out).mono ?_
  rintro e w1 ⟨rfl, hd1, ho1⟩
  have HD1 := Lib.hid hd1
  have HO1 := Lib.hid ho1
  clear hd1 ho1
  by_cases he : (writeF m (firstF m area) num base).2 = 0
  · have g1 : ((writeF m (firstF m area) num base).2 != 0) = false := by rw [he]; rfl
    have hbf : Hid (beginF m area num base = writeF (writeF m (firstF m area) num base).1 area num (headB area)) := Lib.hid (by unfold beginF; rw [if_neg (by simpa using he)])
    obtain ⟨m1, hm1⟩ : ∃ m1, m1 = (writeF m (firstF m area) num base).1 := ⟨_, rfl⟩
    rw [← hm1] at HD1 hbf
    obtain ⟨er, her⟩ : ∃ er, er = (writeF m (firstF m area) num base).2 := ⟨_, rfl⟩
    rw [← her] at g1 ⊢
    clear hm1 her he
    go_wp2_with fail
    refine (head_any area ha _).mono ?_
    rintro e w2 ⟨rfl, hb2⟩
    have HD2 := Lib.hid (HD1.out.only (Only.of_below (S := fun _ => False) hb2) (fun h => h) (fun h => h))
    have HO2 := Lib.hid (HO1.out.trans (Only.of_below hb2))
    clear hb2
    go_wp2_with fail
    refine (jwrite_any b mb m1 (area : Int) (by omega) num hn (headB area) _ HD2.out).mono ?_
    rintro e w3 ⟨rfl, hd3, ho3⟩
    have HD3 := Lib.hid hd3
    have HO3 := Lib.hid (HO2.out.trans ho3)
    clear hd3 ho3
    go_wp2_with fail
    go_ret
    rw [hbf.out]
    exact ⟨rfl, HD3.out, HO3.out⟩
  · have g1 : ((writeF m (firstF m area) num base).2 != 0) = true := by simpa using he
    have hbf : Hid (beginF m area num base = writeF m (firstF m area) num base) := Lib.hid (by unfold beginF; rw [if_pos he])
    obtain ⟨er, her⟩ : ∃ er, er = (writeF m (firstF m area) num base).2 := ⟨_, rfl⟩
    rw [← her] at g1 ⊢
    have HER := Lib.hid her
    clear her he
    go_wp2_with fail
    go_ret
    rw [hbf.out]
    exact ⟨by rw [HER.out]; rfl, HD1.out, HO1.out⟩
end Go.Proofs.YtcakellhellddaaGreatDoor
