import Derived.Test.YtcakellhellddaaGreatDoorFrPlain2
import Derived.Test.YtcakellhellddaaGreatDoorFrWs
import Derived.Test.YtcakellhellddaaGreatDoorFrMake2
import Derived.Test.YtcakellhellddaaGreatDoorStrs
set_option linter.unusedSimpArgs false
set_option linter.unusedVariables false
namespace Go.Proofs.YtcakellhellddaaGreatDoor
open Go.RowKit
/-- What a reading hands back. -/
def got3 (r : ByteArray × Nat × Bool) : Ending := .returned (.tuple #[.string r.1, .int .i64 (r.2.1 : Int), .bool r.2.2])
theorem frRead_zero (v : Value) (w : World) : Calls Tryz.prog 66 #[v, .int .u32 0] w fun e w' => e = got3 none3 ∧ w' = w := by
  go_enter Tryz.func66, Tryz.ntmps66
  go_wp2
  go_ret3
  exact ⟨rfl, rfl⟩
theorem frRead_none (v : Value) (hv : ∃ a c, v = .slice a 0 c) (num : Nat) (w : World) : Calls Tryz.prog 66 #[v, .int .u32 num] w fun e w' => e = got3 none3 ∧ w' = w := by
  obtain ⟨a, c, rfl⟩ := hv
  by_cases h0 : num = 0
  · subst h0; exact frRead_zero _ w
  · have hz : ((num : Int) == 0) = false := by simpa using (by omega : ¬ ((num : Int) = 0))
    go_enter Tryz.func66, Tryz.ntmps66
    go_wp2
    go_ret3
    exact ⟨rfl, rfl⟩
set_option maxRecDepth 100000 in
set_option maxHeartbeats 4000000 in
theorem frRead_some (l : List ByteArray) (hl : 0 < l.length) (hl2 : l.length ≤ 60000) (hsz : ∀ x ∈ l, x.size ≤ 100000) (b o cap num : Nat) (h0 : 0 < num) (hn : num < 4294967296) (hcap : l.length ≤ cap) (w : World)
    (hb : b < w.heap.size) (hc : ∀ (j : Nat) x, l[j]? = some x → w.cell? ⟨b, o + j, none⟩ = some (.string x)) :
    Calls Tryz.prog 66 #[.slice (some ⟨b, o, none⟩) l.length cap, .int .u32 num] w fun e w' => e = got3 (readF l num) ∧ Below w.heap.size w w' := by
  have hz : ((num : Int) == 0) = false := by simpa using (by omega : ¬ ((num : Int) = 0))
  have hlz : ((l.length : Int) == 0) = false := by simpa using (by omega : ¬ ((l.length : Int) = 0))
  obtain ⟨x0, hx0⟩ : ∃ x, l[0]? = some x := ⟨l[0], List.getElem?_eq_getElem hl⟩
  have hhd : l.headD ByteArray.empty = x0 := by cases l with
    | nil => simp at hl
    | cons a l => simpa using hx0
  have hx0m : x0 ∈ l := List.mem_of_getElem? hx0
  have hx0s := hsz x0 hx0m
  have c0 : w.cell? ⟨b, o, none⟩ = some (.string x0) := hc 0 x0 hx0
  have HC := Lib.hid hc
  have HSZ := Lib.hid hsz
  have HHD := Lib.hid hhd
  clear hc hsz hhd hx0m hx0
  go_enter Tryz.func66, Tryz.ntmps66
  go_wp2_with fail
  refine (frNum_any x0 (by simp [maxLen]; omega) _).mono ?_
  rintro e w1 ⟨rfl, hb1⟩
  by_cases hn0 : secNum x0 = num
  · have hne : ((secNum x0 : Int) != (num : Int)) = false := by rw [hn0]; simp
    have hs0 : x0.size = 256 := secNum_size (by omega)
    have p6 : (6 : Int) ≤ (x0.size : Int) := by omega
    have c1 : w1.cell? ⟨b, o, none⟩ = some (.string x0) := (hb1.cell (p := ⟨b, o, none⟩) hb).trans c0
    have HB1 := Lib.hid hb1
    have HN0 := Lib.hid hn0
    have HS0 := Lib.hid hs0
    clear hb1 c0 hn0 hs0 hx0s
    go_wp2_with fail
    refine (open_any _ _).mono ?_
    rintro e w2 ⟨rfl, rfl⟩
    go_wp2_with fail
    refine (Onum_any w1.heap.size 2 (.inl rfl) _ _ (Blk.new _ _ _) (by rw [ByteArray.size_extract, HS0.out]; omega) (by rw [ByteArray.size_extract, HS0.out]; simp [maxLen])).mono ?_
    rintro e w2 ⟨rfl, hO⟩
    have HB2 : Hid (Below w.heap.size w w2) := Lib.hid (HB1.out.trans ((((Below.refl _ w1).alloc (Nat.le_refl _) _).trans (hO.below (by simp) (fun k hk h => by omega))).mono HB1.out.size))
    have he : Lib.leNat ((x0.extract 6 x0.size).data.toList.take 2) = countF x0 := rfl
    rw [he]
    have hlt : countF x0 < 65536 := numF_lt 2 _
    obtain ⟨n, hnn⟩ : ∃ r, r = countF x0 := ⟨_, rfl⟩
    rw [← hnn] at hlt ⊢
    have HNN := Lib.hid hnn
    clear he hO hnn HB1 c1 p6 hne
    have m1 : IntKind.i64.wrap (n : Int) = (n : Int) := by rw [IntKind.wrap_i64]; omega
    by_cases hn1 : n < 1
    · have hr : Hid (readF l num = none3) := Lib.hid (by unfold readF; rw [HHD.out, if_neg (by rintro (h | h | h); omega; (subst h; simp at hl); exact h HN0.out), ← HNN.out, if_pos (.inl hn1)])
      go_wp2_with fail
      go_ret3
      exact ⟨by rw [hr.out]; rfl, HB2.out⟩
    by_cases hn2 : l.length < n
    · have hr : Hid (readF l num = none3) := Lib.hid (by unfold readF; rw [HHD.out, if_neg (by rintro (h | h | h); omega; (subst h; simp at hl); exact h HN0.out), ← HNN.out, if_pos (.inr hn2)])
      go_wp2_with fail
      go_ret3
      exact ⟨by rw [hr.out]; rfl, HB2.out⟩
    have hr : Hid (readF l num = if (List.range n).all (fun i => pieceOk num n i (l.getD i ByteArray.empty)) then tailF n (wholeF l n) else none3) := Lib.hid (by unfold readF; rw [HHD.out, if_neg (by rintro (h | h | h); omega; (subst h; simp at hl); exact h HN0.out), ← HNN.out, if_neg (by omega)])
    have q1 : (n : Int) ≤ (l.length : Int) := by omega
    have q2 : (n : Int) ≤ (cap : Int) := by omega
    clear HNN
    go_wp2_with fail
    generalize hw3 : w2.alloc _ = w3
    have hbn : BuildAt w3 w2.heap.size w2.heap.size [] := by rw [← hw3]; exact BuildAt.new w2
    have hb3 : Below w2.heap.size w2 w3 := by rw [← hw3]; exact (Below.refl _ _).alloc (Nat.le_refl _) _
    have HBN := Lib.hid hbn
    have HB3 := Lib.hid (HB2.out.trans (hb3.mono HB2.out.size))
    clear hbn hb3 hw3
    go_loopw [5, 47] (fun y x wr => ∃ i : Nat, i ≤ n ∧ x = .int .i64 i ∧ y = .int .i64 (n : Int) ∧ Below w.heap.size w wr ∧ BuildAt wr w2.heap.size w2.heap.size (wholeF l i).data.toList ∧ (∀ j, j < i → pieceOk num n j (l.getD j ByteArray.empty) = true)) (fun _ x _ => n - (intOf x).toNat)
    case atStart => exact ⟨0, Nat.zero_le _, rfl, rfl, HB3.out, HBN.out, fun j hj => by omega⟩
    case round =>
      obtain ⟨i, hi, rfl, rfl, hB, hP, hA⟩ := hrel
      have HB := Lib.hid hB
      have HP := Lib.hid hP
      have HA := Lib.hid hA
      clear hB hP hA HB3 HBN
      by_cases hlt : i < n
      · obtain ⟨x, hx⟩ : ∃ x, l[i]? = some x := ⟨l[i], List.getElem?_eq_getElem (by omega)⟩
        have hgd : l.getD i ByteArray.empty = x := by rw [List.getD_eq_getElem?_getD, hx]; rfl
        have ci : wr.cell? ⟨b, o + i, none⟩ = some (.string x) := (HB.out.cell (p := ⟨b, o + i, none⟩) hb).trans (HC.out i x hx)
        have hxs := HSZ.out x (List.mem_of_getElem? hx)
        have HGD := Lib.hid hgd
        have HX := Lib.hid hx
        clear hgd hx
        have m5 : IntKind.u64.wrap (i : Int) = (i : Int) := by rw [IntKind.wrap_u64]; omega
        have m6 : IntKind.u64.wrap (n : Int) = (n : Int) := by rw [IntKind.wrap_u64]; omega
        go_wp2_with fail
        refine wp_region_held_drew (S := fun w' => Below w.heap.size w w') (by kernel_rfl) HB.out.drew (fun hHeld => ?_)
        refine take_op 0 (some 52) (v := ?_) rfl rfl (by kernel_rfl) (by kernel_rfl) (by kernel_rfl) (fun _ _ _ h => h) (Or.inl ⟨by rfl, ?_⟩) (by assumption) ?_
        rotate_left
        · intro w_ hSw_; (try dsimp only at hSw_); go_simp; (try with_reducible rfl)
        try simp only [Act.put, List.setIfInBounds_toArray, List.set_cons_zero, List.set_cons_succ]
        refine take_op 2 (some 54) (v := ?_) rfl rfl (by kernel_rfl) (by kernel_rfl) (by kernel_rfl) (fun _ _ _ h => h) (Or.inl ⟨by rfl, ?_⟩) (by assumption) ?_
        rotate_left
        · intro w_ hSw_; (try dsimp only at hSw_); go_simp; (try with_reducible rfl)
        try simp only [Act.put, List.setIfInBounds_toArray, List.set_cons_zero, List.set_cons_succ]
        refine go_op 1 rfl (by kernel_rfl) (fun K_ hK_ => ?_)
        go_simp
        refine (frNum_any x (by simp [maxLen]; omega) _).mono ?_
        rintro e w4 ⟨rfl, hb4⟩
        have HB4 := Lib.hid (HB.out.drew.trans (hb4.mono HB.out.size))
        have HP4 := Lib.hid ((HP.out.below (((Below.refl _ wr).drew).trans hb4)))
        clear hb4 hHeld ci
        simp only [Act.put, List.setIfInBounds_toArray, List.set_cons_zero, List.set_cons_succ]
        refine hK_.out _ _ HB4.out (fun hHeld_ => ?_)
        by_cases hni : secNum x = num
        · have hne : ((secNum x : Int) != (num : Int)) = false := by rw [hni]; simp
          have hs1 : x.size = 256 := secNum_size (by omega)
          have p8 : (8 : Int) ≤ (x.size : Int) := by omega
          have HNI := Lib.hid hni
          have HS1 := Lib.hid hs1
          clear hni hs1
          refine take_op 3 (some 55) (v := ?_) rfl rfl (by kernel_rfl) (by kernel_rfl) (by kernel_rfl) (fun _ _ _ h => h) (Or.inl ⟨by rfl, ?_⟩) (by assumption) ?_
          rotate_left
          · intro w_ hSw_; (try dsimp only at hSw_); go_simp; (try with_reducible rfl)
          try simp only [Act.put, List.setIfInBounds_toArray, List.set_cons_zero, List.set_cons_succ]
          refine take_op 4 (some 56) (v := ?_) rfl rfl (by kernel_rfl) (by kernel_rfl) (by kernel_rfl) (fun _ _ _ h => h) (Or.inl ⟨by rfl, ?_⟩) (by assumption) ?_
          rotate_left
          · intro w_ hSw_; (try dsimp only at hSw_); go_simp; (try with_reducible rfl)
          try simp only [Act.put, List.setIfInBounds_toArray, List.set_cons_zero, List.set_cons_succ]
          refine take_op 5 (some 57) (v := ?_) rfl rfl (by kernel_rfl) (by kernel_rfl) (by kernel_rfl) (fun _ _ _ h => h) (Or.inl ⟨by rfl, ?_⟩) (by assumption) ?_
          rotate_left
          · intro w_ hSw_; (try dsimp only at hSw_); go_simp; (try with_reducible rfl)
          try simp only [Act.put, List.setIfInBounds_toArray, List.set_cons_zero, List.set_cons_succ]
          refine take_op 6 (some 58) (v := ?_) rfl rfl (by kernel_rfl) (by kernel_rfl) (by kernel_rfl) (fun _ _ _ h => h) (Or.inl ⟨by rfl, ?_⟩) (by assumption) ?_
          rotate_left
          · intro w_ hSw_; (try dsimp only at hSw_); go_simp; (try with_reducible rfl)
          try simp only [Act.put, List.setIfInBounds_toArray, List.set_cons_zero, List.set_cons_succ]
          refine take_op 7 (some 59) (v := ?_) rfl rfl (by kernel_rfl) (by kernel_rfl) (by kernel_rfl) (fun _ _ _ h => h) (Or.inl ⟨by rfl, ?_⟩) (by assumption) ?_
          rotate_left
          · intro w_ hSw_; (try dsimp only at hSw_); go_simp; (try with_reducible rfl)
          try simp only [Act.put, List.setIfInBounds_toArray, List.set_cons_zero, List.set_cons_succ]
          refine take_op 8 (some 60) (v := ?_) rfl rfl (by kernel_rfl) (by kernel_rfl) (by kernel_rfl) (fun _ _ _ h => h) (Or.inl ⟨by rfl, ?_⟩) (by assumption) ?_
          rotate_left
          · intro w_ hSw_; (try dsimp only at hSw_); go_simp; (try with_reducible rfl)
          try simp only [Act.put, List.setIfInBounds_toArray, List.set_cons_zero, List.set_cons_succ]
          refine take_op 9 (some 61) (v := ?_) rfl rfl (by kernel_rfl) (by kernel_rfl) (by kernel_rfl) (fun _ _ _ h => h) (Or.inl ⟨by rfl, ?_⟩) (by assumption) ?_
          rotate_left
          · intro w_ hSw_; (try dsimp only at hSw_); go_simp; (try with_reducible rfl)
          try simp only [Act.put, List.setIfInBounds_toArray, List.set_cons_zero, List.set_cons_succ]
          refine take_op 10 (some 62) (v := ?_) rfl rfl (by kernel_rfl) (by kernel_rfl) (by kernel_rfl) (fun _ _ _ h => h) (Or.inl ⟨by rfl, ?_⟩) (by assumption) ?_
          rotate_left
          · intro w_ hSw_; (try dsimp only at hSw_); go_simp; (try with_reducible rfl)
          try simp only [Act.put, List.setIfInBounds_toArray, List.set_cons_zero, List.set_cons_succ]
          clear p8 hne
          refine go_op 11 rfl (by kernel_rfl) (fun K_ hK_ => ?_)
          go_simp
          have hu := Blk.new w4 #[.int .u64 (i : Int), .int .u64 (n : Int)] 107
          have hba := (Below.refl w4.heap.size w4).alloc (Nat.le_refl _) (.cells #[.int .u64 (i : Int), .int .u64 (n : Int)] 107)
          have HB5 := Lib.hid (HB4.out.trans (hba.mono HB4.out.size))
          have HP5 := Lib.hid (HP4.out.below hba)
          clear hba
          refine hK_.out _ _ HB5.out (fun hHeld_ => ?_)
          refine go_op 12 rfl (by kernel_rfl) (fun K_ hK_ => ?_)
          go_simp
          refine (bytes_row2 i n (by omega) (by omega) _ _ _ hu).mono ?_
          rintro e w6 ⟨rfl, hb6⟩
          have HB6 := Lib.hid (HB5.out.trans (hb6.mono HB5.out.size))
          have HP6 := Lib.hid (HP5.out.below hb6)
          clear hb6 hu HB5 HP5 HB4 HP4
          simp only [Act.put, List.setIfInBounds_toArray, List.set_cons_zero, List.set_cons_succ]
          refine hK_.out _ _ HB6.out (fun hHeld_ => ?_)
          obtain ⟨y, hy⟩ : ∃ y : ByteArray, y = ⟨(lesL 2 [i, n]).toArray⟩ := ⟨_, rfl⟩
          rw [← hy]
          have HY := Lib.hid hy
          clear hy
          by_cases heq : ((x.extract 4 8).toList == y.toList) = true
          · have heq2 := heq
            clear hHeld_
            have hHeld_ := HB6.out
            have HEQ := Lib.hid heq
            refine take_op 13 (some 65) (v := ?_) rfl rfl (by kernel_rfl) (by kernel_rfl) (by kernel_rfl) (fun _ _ _ h => h) (Or.inl ⟨by rfl, ?_⟩) (by assumption) ?_
            rotate_left
            · intro w_ hSw_; (try dsimp only at hSw_); go_simp; (try with_reducible rfl)
            try simp only [Act.put, List.setIfInBounds_toArray, List.set_cons_zero, List.set_cons_succ]
            refine take_op 14 (some 66) (v := ?_) rfl rfl (by kernel_rfl) (by kernel_rfl) (by kernel_rfl) (fun _ _ _ h => h) (Or.inl ⟨by rfl, ?_⟩) (by assumption) ?_
            rotate_left
            · intro w_ hSw_; (try dsimp only at hSw_); go_simp; (try with_reducible rfl)
            try simp only [Act.put, List.setIfInBounds_toArray, List.set_cons_zero, List.set_cons_succ]
            refine wpAnyH_done (by kernel_rfl) ?_ _
            clear heq heq2
            have p8 : (8 : Int) ≤ (x.size : Int) := by have := HS1.out; omega
            have p9 : (252 : Int) ≤ (x.size : Int) := by have := HS1.out; omega
            go_wp2_with fail
            have hwl : (wholeF l i).data.toList.length ≤ 100000000 := by
              have := wholeF_size l i (by omega) (fun j hj => by
                have h1 := HA.out j hj
                unfold pieceOk at h1
                simp only [Bool.and_eq_true, decide_eq_true_eq] at h1
                exact secNum_size (by omega))
              rw [Array.length_toList]
              show (wholeF l i).size ≤ _
              rw [this]; omega
            refine (wstr_any w2.heap.size w2.heap.size _ _ _ HP6.out (by rw [ByteArray.size_extract, HS1.out]; omega) ?_).mono ?_
            · have := HP6.out
              rcases this with h | h
              · have := h.lt; omega
              · have := h.lt; omega
            rintro e w7 ⟨rfl, hP7, hb7⟩
            have HP7 := Lib.hid hP7
            have HB7 := Lib.hid (HB6.out.trans (hb7.mono HB2.out.size))
            clear hP7 hb7 hwl
            go_wp2_with fail
            go_roundw
            case rel =>
              refine ⟨i + 1, by omega, by go_num, rfl, HB7.out, ?_, ?_⟩
              · rw [wholeF_succ l i (by omega), HGD.out]; exact HP7.out
              · intro j hj
                by_cases hji : j < i
                · exact HA.out j hji
                · have hji : j = i := by omega
                  rw [hji, HGD.out]
                  unfold pieceOk
                  rw [← HY.out, HEQ.out, HNI.out]; simp
            case measure => simp [intOf]; omega
          · have heq2 : ((x.extract 4 8).toList == y.toList) = false := by simpa using heq
            have hbad : Hid (readF l num = none3) := Lib.hid (by
              rw [hr.out, if_neg]
              intro hall
              rw [List.all_eq_true] at hall
              have := hall i (List.mem_range.2 hlt)
              rw [HGD.out] at this
              unfold pieceOk at this
              rw [← HY.out, heq2] at this
              simp at this)
            clear heq
            refine take_op 13 (some 65) (v := ?_) rfl rfl (by kernel_rfl) (by kernel_rfl) (by kernel_rfl) (fun _ _ _ h => h) (Or.inl ⟨by rfl, ?_⟩) (by assumption) ?_
            rotate_left
            · intro w_ hSw_; (try dsimp only at hSw_); go_simp; (try with_reducible rfl)
            try simp only [Act.put, List.setIfInBounds_toArray, List.set_cons_zero, List.set_cons_succ]
            refine take_op 14 (some 66) (v := ?_) rfl rfl (by kernel_rfl) (by kernel_rfl) (by kernel_rfl) (fun _ _ _ h => h) (Or.inl ⟨by rfl, ?_⟩) (by assumption) ?_
            rotate_left
            · intro w_ hSw_; (try dsimp only at hSw_); go_simp; (try with_reducible rfl)
            try simp only [Act.put, List.setIfInBounds_toArray, List.set_cons_zero, List.set_cons_succ]
            refine wpAnyH_done (by kernel_rfl) ?_ _
            go_wp2_with fail
            go_ret3
            exact ⟨by rw [hbad.out]; rfl, HB6.out⟩
        · have hne : ((secNum x : Int) != (num : Int)) = true := by simpa using (by omega : ¬ ((secNum x : Int) = (num : Int)))
          have hbad : Hid (readF l num = none3) := Lib.hid (by
            rw [hr.out, if_neg]
            intro hall
            rw [List.all_eq_true] at hall
            have := hall i (List.mem_range.2 hlt)
            rw [HGD.out] at this
            unfold pieceOk at this
            simp [hni] at this)
          clear hni
          refine take_op 3 (some 55) (v := ?_) rfl rfl (by kernel_rfl) (by kernel_rfl) (by kernel_rfl) (fun _ _ _ h => h) (Or.inl ⟨by rfl, ?_⟩) (by assumption) ?_
          rotate_left
          · intro w_ hSw_; (try dsimp only at hSw_); go_simp; (try with_reducible rfl)
          try simp only [Act.put, List.setIfInBounds_toArray, List.set_cons_zero, List.set_cons_succ]
          refine take_op 4 (some 56) (v := ?_) rfl rfl (by kernel_rfl) (by kernel_rfl) (by kernel_rfl) (fun _ _ _ h => h) (Or.inl ⟨by rfl, ?_⟩) (by assumption) ?_
          rotate_left
          · intro w_ hSw_; (try dsimp only at hSw_); go_simp; (try with_reducible rfl)
          try simp only [Act.put, List.setIfInBounds_toArray, List.set_cons_zero, List.set_cons_succ]
          refine take_op 5 (some 57) rfl rfl (by kernel_rfl) (by kernel_rfl) (by kernel_rfl) (fun _ _ _ h => h) (Or.inr ⟨by rfl, rfl⟩) (by assumption) ?_
          try simp only [Act.put, List.setIfInBounds_toArray, List.set_cons_zero, List.set_cons_succ]
          refine take_op 6 (some 58) rfl rfl (by kernel_rfl) (by kernel_rfl) (by kernel_rfl) (fun _ _ _ h => h) (Or.inr ⟨by rfl, rfl⟩) (by assumption) ?_
          try simp only [Act.put, List.setIfInBounds_toArray, List.set_cons_zero, List.set_cons_succ]
          refine take_op 7 (some 59) rfl rfl (by kernel_rfl) (by kernel_rfl) (by kernel_rfl) (fun _ _ _ h => h) (Or.inr ⟨by rfl, rfl⟩) (by assumption) ?_
          try simp only [Act.put, List.setIfInBounds_toArray, List.set_cons_zero, List.set_cons_succ]
          refine take_op 8 (some 60) rfl rfl (by kernel_rfl) (by kernel_rfl) (by kernel_rfl) (fun _ _ _ h => h) (Or.inr ⟨by rfl, rfl⟩) (by assumption) ?_
          try simp only [Act.put, List.setIfInBounds_toArray, List.set_cons_zero, List.set_cons_succ]
          refine take_op 9 (some 61) rfl rfl (by kernel_rfl) (by kernel_rfl) (by kernel_rfl) (fun _ _ _ h => h) (Or.inr ⟨by rfl, rfl⟩) (by assumption) ?_
          try simp only [Act.put, List.setIfInBounds_toArray, List.set_cons_zero, List.set_cons_succ]
          refine take_op 10 (some 62) rfl rfl (by kernel_rfl) (by kernel_rfl) (by kernel_rfl) (fun _ _ _ h => h) (Or.inr ⟨by rfl, rfl⟩) (by assumption) ?_
          try simp only [Act.put, List.setIfInBounds_toArray, List.set_cons_zero, List.set_cons_succ]
          refine take_op 11 (some 63) rfl rfl (by kernel_rfl) (by kernel_rfl) (by kernel_rfl) (fun _ _ _ h => h) (Or.inr ⟨by rfl, rfl⟩) (by assumption) ?_
          try simp only [Act.put, List.setIfInBounds_toArray, List.set_cons_zero, List.set_cons_succ]
          refine take_op 12 (some 64) rfl rfl (by kernel_rfl) (by kernel_rfl) (by kernel_rfl) (fun _ _ _ h => h) (Or.inr ⟨by rfl, rfl⟩) (by assumption) ?_
          try simp only [Act.put, List.setIfInBounds_toArray, List.set_cons_zero, List.set_cons_succ]
          refine take_op 13 (some 65) rfl rfl (by kernel_rfl) (by kernel_rfl) (by kernel_rfl) (fun _ _ _ h => h) (Or.inr ⟨by rfl, rfl⟩) (by assumption) ?_
          try simp only [Act.put, List.setIfInBounds_toArray, List.set_cons_zero, List.set_cons_succ]
          refine take_op 14 (some 66) (v := ?_) rfl rfl (by kernel_rfl) (by kernel_rfl) (by kernel_rfl) (fun _ _ _ h => h) (Or.inl ⟨by rfl, ?_⟩) (by assumption) ?_
          rotate_left
          · intro w_ hSw_; (try dsimp only at hSw_); go_simp; (try with_reducible rfl)
          try simp only [Act.put, List.setIfInBounds_toArray, List.set_cons_zero, List.set_cons_succ]
          refine wpAnyH_done (by kernel_rfl) ?_ _
          go_wp2_with fail
          go_ret3
          exact ⟨by rw [hbad.out]; rfl, HB4.out⟩
      · have hin : i = n := by omega
        subst hin
        have hall : (List.range i).all (fun j => pieceOk num i j (l.getD j ByteArray.empty)) = true := by
          rw [List.all_eq_true]
          intro j hj
          exact HA.out j (List.mem_range.1 hj)
        have hr2 : Hid (readF l num = tailF i (wholeF l i)) := Lib.hid (by rw [hr.out, if_pos hall])
        have hws := wholeF_size l i (by omega) (fun j hj => by
          have h1 := HA.out j hj
          unfold pieceOk at h1
          simp only [Bool.and_eq_true, decide_eq_true_eq] at h1
          exact secNum_size (by omega))
        clear hall hr HA
        go_wp2_with fail
        refine (bstr_any w2.heap.size w2.heap.size _ _ HP.out (by have := HP.out; rcases this with h | h <;> (have := h.lt; omega))).mono ?_
        rintro e w7 ⟨rfl, hb7⟩
        have HB7 := Lib.hid (HB.out.trans (hb7.mono HB2.out.size))
        clear hb7
        have hto : (⟨(wholeF l i).data.toList.toArray⟩ : ByteArray) = wholeF l i := by simp
        rw [hto]
        obtain ⟨A, hA⟩ : ∃ A, A = wholeF l i := ⟨_, rfl⟩
        rw [← hA] at hws hr2 ⊢
        have HWS := Lib.hid hws
        clear hto hA hws HP HB HB2
        go_wp2_with fail
        refine (number_any A (by rw [HWS.out]; omega) (by rw [HWS.out]; simp [maxLen]; omega) _).mono ?_
        rintro e w8 ⟨rfl, hb8⟩
        have HB8 := Lib.hid (HB7.out.trans (hb8.mono HB7.out.size))
        have hz4 : numF 4 A < 4294967296 := numF_lt 4 A
        obtain ⟨z, hzz⟩ : ∃ z, z = numF 4 A := ⟨_, rfl⟩
        rw [← hzz] at hz4 ⊢
        have HZZ := Lib.hid hzz
        clear hb8 hzz HB7
        by_cases hz6 : 60000 < z
        · have hbad : Hid (readF l num = none3) := Lib.hid (by rw [hr2.out]; unfold tailF; rw [← HZZ.out, if_pos (.inl hz6)])
          have z6 : (60000 : Int) < (z : Int) := by omega
          clear hz6
          go_wp2_with fail
          go_ret3
          exact ⟨by rw [hbad.out]; rfl, HB8.out⟩
        have z6 : ¬ (60000 : Int) < (z : Int) := by omega
        go_wp2_with fail
        refine (frSize_any (z : Int) _).mono ?_
        rintro e w9 ⟨rfl, hw9⟩
        have hw9 := hw9.symm
        subst hw9
        have hsn : sizeF (z : Int) = (sizeN z : Int) := sizeF_nat (by omega)
        rw [hsn]
        by_cases hzi : sizeN z = i
        · have hneq : ((sizeN z : Int) != (i : Int)) = false := by rw [hzi]; simp
          have hroom := sizeN_room z
          rw [hzi] at hroom
          have hr3 : Hid (readF l num = if (sumF (A.extract 0 (4 + z)).data.toList).toNat ≠ numF 4 (A.extract (4 + z) A.size) ∨ restF A = false then none3 else (A.extract 4 (4 + z), i, true)) := Lib.hid (by
            rw [hr2.out]; unfold tailF; rw [← HZZ.out, if_neg]
            rw [hsn, hzi]; omega)
          obtain ⟨e, he⟩ : ∃ e, e = 4 + z := ⟨_, rfl⟩
          have me : IntKind.i64.wrap (4 + (z : Int)) = (e : Int) := by rw [IntKind.wrap_i64]; omega
          obtain ⟨e4, he4⟩ : ∃ e4, e4 = e + 4 := ⟨_, rfl⟩
          have me4 : IntKind.i64.wrap ((e : Int) + 4) = (e4 : Int) := by rw [IntKind.wrap_i64]; omega
          have p1 : (e : Int) ≤ (A.size : Int) := by rw [HWS.out]; omega
          have p2 : (e4 : Int) ≤ (A.size : Int) := by rw [HWS.out]; omega
          have p3 : (4 : Int) ≤ (e : Int) := by omega
          have HES : Hid (4 ≤ (A.extract e A.size).size) := Lib.hid (by rw [ByteArray.size_extract, HWS.out]; omega)
          have hrest : Hid (restF A = (A.extract e4 A.size).data.toList.all (· == 0)) := Lib.hid (by unfold restF; rw [← HZZ.out, ← he, ← he4])
          rw [← he] at hr3
          clear hzi hroom he hr2 hsn hz6 he4
          go_wp2_with fail
          refine wp_region_held_drew (S := fun w' => Below w.heap.size w w') (by kernel_rfl) HB8.out.drew (fun hHeld => ?_)
          refine take_op 0 (some 86) (v := ?_) rfl rfl (by kernel_rfl) (by kernel_rfl) (by kernel_rfl) (fun _ _ _ h => h) (Or.inl ⟨by rfl, ?_⟩) (by assumption) ?_
          rotate_left
          · intro w_ hSw_; (try dsimp only at hSw_); go_simp; (try with_reducible rfl)
          try simp only [Act.put, List.setIfInBounds_toArray, List.set_cons_zero, List.set_cons_succ]
          refine take_op 1 (some 87) (v := ?_) rfl rfl (by kernel_rfl) (by kernel_rfl) (by kernel_rfl) (fun _ _ _ h => h) (Or.inl ⟨by rfl, ?_⟩) (by assumption) ?_
          rotate_left
          · intro w_ hSw_; (try dsimp only at hSw_); go_simp; (try with_reducible rfl)
          try simp only [Act.put, List.setIfInBounds_toArray, List.set_cons_zero, List.set_cons_succ]
          refine take_op 2 (some 88) (v := ?_) rfl rfl (by kernel_rfl) (by kernel_rfl) (by kernel_rfl) (fun _ _ _ h => h) (Or.inl ⟨by rfl, ?_⟩) (by assumption) ?_
          rotate_left
          · intro w_ hSw_; (try dsimp only at hSw_); go_simp; (try with_reducible rfl)
          try simp only [Act.put, List.setIfInBounds_toArray, List.set_cons_zero, List.set_cons_succ]
          refine take_op 4 (some 90) (v := ?_) rfl rfl (by kernel_rfl) (by kernel_rfl) (by kernel_rfl) (fun _ _ _ h => h) (Or.inl ⟨by rfl, ?_⟩) (by assumption) ?_
          rotate_left
          · intro w_ hSw_; (try dsimp only at hSw_); go_simp; (try with_reducible rfl)
          try simp only [Act.put, List.setIfInBounds_toArray, List.set_cons_zero, List.set_cons_succ]
          refine take_op 5 (some 91) (v := ?_) rfl rfl (by kernel_rfl) (by kernel_rfl) (by kernel_rfl) (fun _ _ _ h => h) (Or.inl ⟨by rfl, ?_⟩) (by assumption) ?_
          rotate_left
          · intro w_ hSw_; (try dsimp only at hSw_); go_simp; (try with_reducible rfl)
          try simp only [Act.put, List.setIfInBounds_toArray, List.set_cons_zero, List.set_cons_succ]
          refine take_op 6 (some 92) (v := ?_) rfl rfl (by kernel_rfl) (by kernel_rfl) (by kernel_rfl) (fun _ _ _ h => h) (Or.inl ⟨by rfl, ?_⟩) (by assumption) ?_
          rotate_left
          · intro w_ hSw_; (try dsimp only at hSw_); go_simp; (try with_reducible rfl)
          try simp only [Act.put, List.setIfInBounds_toArray, List.set_cons_zero, List.set_cons_succ]
          refine go_op 3 rfl (by kernel_rfl) (fun K_ hK_ => ?_)
          go_simp
          refine (sum_any (A.extract 0 e) _ (by rw [ByteArray.size_extract, HWS.out]; omega)).mono ?_
          rintro e1 w9 ⟨rfl, hw9⟩
          have hw9 := hw9.symm
          subst hw9
          have hcl := (sumF (A.extract 0 e).data.toList).isLt
          have ht : tn (sumF (A.extract 0 e).data.toList) = ((sumF (A.extract 0 e).data.toList).toNat : Int) := rfl
          rw [ht]
          obtain ⟨c, hcc⟩ : ∃ c, c = (sumF (A.extract 0 e).data.toList).toNat := ⟨_, rfl⟩
          rw [← hcc] at hcl hr3 ⊢
          clear ht hcc
          simp only [Act.put, List.setIfInBounds_toArray, List.set_cons_zero, List.set_cons_succ]
          refine hK_.out _ _ hHeld (fun hHeld_ => ?_)
          refine go_op 7 rfl (by kernel_rfl) (fun K_ hK_ => ?_)
          go_simp
          refine (number_any (A.extract e A.size) HES.out (by rw [ByteArray.size_extract, HWS.out]; simp [maxLen]; omega) _).mono ?_
          rintro e1 w9 ⟨rfl, hb9⟩
          have HB9 := Lib.hid (hHeld.trans (hb9.mono hHeld.size))
          have hnl : numF 4 (A.extract e A.size) < 4294967296 := numF_lt 4 _
          obtain ⟨m, hm⟩ : ∃ m, m = numF 4 (A.extract e A.size) := ⟨_, rfl⟩
          rw [← hm] at hnl hr3 ⊢
          clear hb9 hm HES
          simp only [Act.put, List.setIfInBounds_toArray, List.set_cons_zero, List.set_cons_succ]
          refine hK_.out _ _ HB9.out (fun hHeld_ => ?_)
          clear hHeld
          by_cases hcm : c = m
          · have hne : ((c : Int) != (m : Int)) = false := by rw [hcm]; simp
            have hr4 : Hid (readF l num = if restF A = false then none3 else (A.extract 4 e, i, true)) := Lib.hid (by rw [hr3.out]; by_cases hf : restF A = false <;> simp [hf, hcm])
            clear hr3 hcm
            refine take_op 8 (some 94) (v := ?_) rfl rfl (by kernel_rfl) (by kernel_rfl) (by kernel_rfl) (fun _ _ _ h => h) (Or.inl ⟨by rfl, ?_⟩) (by assumption) ?_
            rotate_left
            · intro w_ hSw_; (try dsimp only at hSw_); go_simp; (try with_reducible rfl)
            try simp only [Act.put, List.setIfInBounds_toArray, List.set_cons_zero, List.set_cons_succ]
            refine take_op 9 (some 95) (v := ?_) rfl rfl (by kernel_rfl) (by kernel_rfl) (by kernel_rfl) (fun _ _ _ h => h) (Or.inl ⟨by rfl, ?_⟩) (by assumption) ?_
            rotate_left
            · intro w_ hSw_; (try dsimp only at hSw_); go_simp; (try with_reducible rfl)
            try simp only [Act.put, List.setIfInBounds_toArray, List.set_cons_zero, List.set_cons_succ]
            refine take_op 10 (some 96) (v := ?_) rfl rfl (by kernel_rfl) (by kernel_rfl) (by kernel_rfl) (fun _ _ _ h => h) (Or.inl ⟨by rfl, ?_⟩) (by assumption) ?_
            rotate_left
            · intro w_ hSw_; (try dsimp only at hSw_); go_simp; (try with_reducible rfl)
            try simp only [Act.put, List.setIfInBounds_toArray, List.set_cons_zero, List.set_cons_succ]
            refine take_op 11 (some 97) (v := ?_) rfl rfl (by kernel_rfl) (by kernel_rfl) (by kernel_rfl) (fun _ _ _ h => h) (Or.inl ⟨by rfl, ?_⟩) (by assumption) ?_
            rotate_left
            · intro w_ hSw_; (try dsimp only at hSw_); go_simp; (try with_reducible rfl)
            try simp only [Act.put, List.setIfInBounds_toArray, List.set_cons_zero, List.set_cons_succ]
            refine take_op 12 (some 98) (v := ?_) rfl rfl (by kernel_rfl) (by kernel_rfl) (by kernel_rfl) (fun _ _ _ h => h) (Or.inl ⟨by rfl, ?_⟩) (by assumption) ?_
            rotate_left
            · intro w_ hSw_; (try dsimp only at hSw_); go_simp; (try with_reducible rfl)
            try simp only [Act.put, List.setIfInBounds_toArray, List.set_cons_zero, List.set_cons_succ]
            refine take_op 13 (some 99) (v := ?_) rfl rfl (by kernel_rfl) (by kernel_rfl) (by kernel_rfl) (fun _ _ _ h => h) (Or.inl ⟨by rfl, ?_⟩) (by assumption) ?_
            rotate_left
            · intro w_ hSw_; (try dsimp only at hSw_); go_simp; (try with_reducible rfl)
            try simp only [Act.put, List.setIfInBounds_toArray, List.set_cons_zero, List.set_cons_succ]
            refine go_op 14 rfl (by kernel_rfl) (fun K_ hK_ => ?_)
            go_simp
            refine (Tryz.strings_Trim_one _ 0 (by decide) _ (by rw [ByteArray.size_extract, HWS.out]; omega)).mono ?_
            rintro e1 w10 ⟨rfl, hw10⟩
            have HB10 : Hid (Below w.heap.size w w10) := Lib.hid (by rcases hw10 with h | h <;> rw [h]; exact HB9.out; exact HB9.out.drew)
            clear hw10 hHeld_
            simp only [Act.put, List.setIfInBounds_toArray, List.set_cons_zero, List.set_cons_succ]
            refine hK_.out _ _ HB10.out (fun hHeld_ => ?_)
            cases hf : restF A
            · have hbad : Hid (readF l num = none3) := Lib.hid (by rw [hr4.out, hf]; rfl)
              obtain ⟨T, hT⟩ : ∃ T, T = Lib.trimB (A.extract e4 A.size).data.toList 0 := ⟨_, rfl⟩
              rw [← hT]
              have hnt : T.isEmpty = false := by
                cases hq : T with
                | nil =>
                  exfalso
                  rw [hq] at hT
                  have h2 := (trim_nil _).1 hT.symm
                  rw [← hrest.out, hf] at h2
                  cases h2
                | cons a r => rfl
              clear hT
              clear hf hrest hr4
              refine take_op 15 (some 101) (v := ?_) rfl rfl (by kernel_rfl) (by kernel_rfl) (by kernel_rfl) (fun _ _ _ h => h) (Or.inl ⟨by rfl, ?_⟩) (by assumption) ?_
              rotate_left
              · intro w_ hSw_; (try dsimp only at hSw_); go_simp; (try with_reducible rfl)
              try simp only [Act.put, List.setIfInBounds_toArray, List.set_cons_zero, List.set_cons_succ]
              refine take_op 16 (some 102) (v := ?_) rfl rfl (by kernel_rfl) (by kernel_rfl) (by kernel_rfl) (fun _ _ _ h => h) (Or.inl ⟨by rfl, ?_⟩) (by assumption) ?_
              rotate_left
              · intro w_ hSw_; (try dsimp only at hSw_); go_simp; (try with_reducible rfl)
              try simp only [Act.put, List.setIfInBounds_toArray, List.set_cons_zero, List.set_cons_succ]
              refine wpAnyH_done (by kernel_rfl) ?_ _
              go_wp2_with fail
              go_ret3
              exact ⟨by rw [hbad.out]; rfl, HB10.out⟩
            · have hnt : Lib.trimB (A.extract e4 A.size).data.toList 0 = [] := by rw [trim_nil, ← hrest.out, hf]
              have hgood : Hid (readF l num = (A.extract 4 e, i, true)) := Lib.hid (by rw [hr4.out, hf]; rfl)
              rw [hnt]
              clear hf hrest hr4 hnt
              refine take_op 15 (some 101) (v := ?_) rfl rfl (by kernel_rfl) (by kernel_rfl) (by kernel_rfl) (fun _ _ _ h => h) (Or.inl ⟨by rfl, ?_⟩) (by assumption) ?_
              rotate_left
              · intro w_ hSw_; (try dsimp only at hSw_); go_simp; (try with_reducible rfl)
              try simp only [Act.put, List.setIfInBounds_toArray, List.set_cons_zero, List.set_cons_succ]
              refine take_op 16 (some 102) (v := ?_) rfl rfl (by kernel_rfl) (by kernel_rfl) (by kernel_rfl) (fun _ _ _ h => h) (Or.inl ⟨by rfl, ?_⟩) (by assumption) ?_
              rotate_left
              · intro w_ hSw_; (try dsimp only at hSw_); go_simp; (try with_reducible rfl)
              try simp only [Act.put, List.setIfInBounds_toArray, List.set_cons_zero, List.set_cons_succ]
              refine wpAnyH_done (by kernel_rfl) ?_ _
              go_wp2_with fail
              go_ret3
              exact ⟨by rw [hgood.out]; rfl, HB10.out⟩
          · have hne : ((c : Int) != (m : Int)) = true := by simpa using (by omega : ¬ ((c : Int) = (m : Int)))
            have hbad : Hid (readF l num = none3) := Lib.hid (by rw [hr3.out, if_pos (.inl hcm)])
            clear hcm hr3
            refine take_op 8 (some 94) (v := ?_) rfl rfl (by kernel_rfl) (by kernel_rfl) (by kernel_rfl) (fun _ _ _ h => h) (Or.inl ⟨by rfl, ?_⟩) (by assumption) ?_
            rotate_left
            · intro w_ hSw_; (try dsimp only at hSw_); go_simp; (try with_reducible rfl)
            try simp only [Act.put, List.setIfInBounds_toArray, List.set_cons_zero, List.set_cons_succ]
            refine take_op 9 (some 95) (v := ?_) rfl rfl (by kernel_rfl) (by kernel_rfl) (by kernel_rfl) (fun _ _ _ h => h) (Or.inl ⟨by rfl, ?_⟩) (by assumption) ?_
            rotate_left
            · intro w_ hSw_; (try dsimp only at hSw_); go_simp; (try with_reducible rfl)
            try simp only [Act.put, List.setIfInBounds_toArray, List.set_cons_zero, List.set_cons_succ]
            refine take_op 10 (some 96) rfl rfl (by kernel_rfl) (by kernel_rfl) (by kernel_rfl) (fun _ _ _ h => h) (Or.inr ⟨by rfl, rfl⟩) (by assumption) ?_
            try simp only [Act.put, List.setIfInBounds_toArray, List.set_cons_zero, List.set_cons_succ]
            refine take_op 11 (some 97) rfl rfl (by kernel_rfl) (by kernel_rfl) (by kernel_rfl) (fun _ _ _ h => h) (Or.inr ⟨by rfl, rfl⟩) (by assumption) ?_
            try simp only [Act.put, List.setIfInBounds_toArray, List.set_cons_zero, List.set_cons_succ]
            refine take_op 12 (some 98) rfl rfl (by kernel_rfl) (by kernel_rfl) (by kernel_rfl) (fun _ _ _ h => h) (Or.inr ⟨by rfl, rfl⟩) (by assumption) ?_
            try simp only [Act.put, List.setIfInBounds_toArray, List.set_cons_zero, List.set_cons_succ]
            refine take_op 13 (some 99) rfl rfl (by kernel_rfl) (by kernel_rfl) (by kernel_rfl) (fun _ _ _ h => h) (Or.inr ⟨by rfl, rfl⟩) (by assumption) ?_
            try simp only [Act.put, List.setIfInBounds_toArray, List.set_cons_zero, List.set_cons_succ]
            refine take_op 14 (some 100) rfl rfl (by kernel_rfl) (by kernel_rfl) (by kernel_rfl) (fun _ _ _ h => h) (Or.inr ⟨by rfl, rfl⟩) (by assumption) ?_
            try simp only [Act.put, List.setIfInBounds_toArray, List.set_cons_zero, List.set_cons_succ]
            refine take_op 15 (some 101) rfl rfl (by kernel_rfl) (by kernel_rfl) (by kernel_rfl) (fun _ _ _ h => h) (Or.inr ⟨by rfl, rfl⟩) (by assumption) ?_
            try simp only [Act.put, List.setIfInBounds_toArray, List.set_cons_zero, List.set_cons_succ]
            refine take_op 16 (some 102) (v := ?_) rfl rfl (by kernel_rfl) (by kernel_rfl) (by kernel_rfl) (fun _ _ _ h => h) (Or.inl ⟨by rfl, ?_⟩) (by assumption) ?_
            rotate_left
            · intro w_ hSw_; (try dsimp only at hSw_); go_simp; (try with_reducible rfl)
            try simp only [Act.put, List.setIfInBounds_toArray, List.set_cons_zero, List.set_cons_succ]
            refine wpAnyH_done (by kernel_rfl) ?_ _
            go_wp2_with fail
            go_ret3
            exact ⟨by rw [hbad.out]; rfl, HB9.out⟩
        · have hneq : ((sizeN z : Int) != (i : Int)) = true := by simpa using (by omega : ¬ ((sizeN z : Int) = (i : Int)))
          have hbad : Hid (readF l num = none3) := Lib.hid (by rw [hr2.out]; unfold tailF; rw [← HZZ.out, if_pos (.inr (by rw [hsn]; omega))])
          clear hzi
          go_wp2_with fail
          go_ret3
          exact ⟨by rw [hbad.out]; rfl, HB8.out⟩
  · have hne : ((secNum x0 : Int) != (num : Int)) = true := by simpa using (by omega : ¬ ((secNum x0 : Int) = (num : Int)))
    have hr : Hid (readF l num = none3) := Lib.hid (by unfold readF; rw [HHD.out, if_pos (.inr (.inr hn0))])
    clear hn0
    go_wp2_with fail
    go_ret3
    exact ⟨by rw [hr.out]; rfl, hb1⟩
end Go.Proofs.YtcakellhellddaaGreatDoor
