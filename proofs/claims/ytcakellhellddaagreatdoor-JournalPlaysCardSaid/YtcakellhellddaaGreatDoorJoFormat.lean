import Derived.Test.YtcakellhellddaaGreatDoorJoAt
set_option linter.unusedSimpArgs false
set_option linter.unusedVariables false
namespace Go.Proofs.YtcakellhellddaaGreatDoor
open Go.RowKit
/-- The greatest number of the first i sectors. -/
def topN (m : DM) : Nat → Nat
  | 0 => 0
  | i + 1 => max (topN m i) (secNum (m.at i))
theorem topN_lt (m : DM) : ∀ i, topN m i < 4294967296
  | 0 => by unfold topN; decide
  | i + 1 => by
    have h1 := topN_lt m i
    have h2 := secNum_lt (m.at i)
    unfold topN; omega
/-- A journal begun on a disk: the disk, the journal, the error. -/
def formatF (m : DM) (base : ByteArray) : DM × Option JM × Int :=
  if jsize m = 0 then (m, none, 1)
  else if (fitsF base (jsize m)).2 ≠ 0 then (m, none, (fitsF base (jsize m)).2)
  else if m.dead then (m, none, 74)
  else if 2147483648 < topN m m.S.length then (m, none, 73)
  else if (beginF m 0 (topN m m.S.length + 1) base).2 ≠ 0 then ((beginF m 0 (topN m m.S.length + 1) base).1, none, (beginF m 0 (topN m m.S.length + 1) base).2)
  else ((beginF m 0 (topN m m.S.length + 1) base).1, some ⟨0, base, [], topN m m.S.length + 2, sizeN base.size, false⟩, 0)
theorem format_nil (base : ByteArray) (w : World) : Calls Tryz.prog 8 #[.pointer none, .string base] w fun e w' => e = .returned (.tuple #[.pointer none, .int .i64 1]) ∧ w' = w := by
  go_enter Tryz.func8, Tryz.ntmps8
  go_wp2_with fail
  refine (jsize_nil _).mono ?_
  rintro e w1 ⟨rfl, hw1⟩
  have hw1 := hw1.symm
  subst hw1
  go_wp2_with fail
  go_ret2
  exact ⟨rfl, rfl⟩
/-- What Format leaves. -/
def FormatPost (b mb : Nat) (r : DM × Option JM × Int) (w : World) (e : Ending) (w' : World) : Prop :=
  DiskAt w' b mb r.1 ∧ Only (own2 b mb) w w' ∧
  match r.2.1 with
  | none => e = .returned (.tuple #[.pointer none, .int .i64 r.2.2])
  | some j => ∃ jb, e = .returned (.tuple #[.pointer (some ⟨jb, 0, none⟩), .int .i64 r.2.2]) ∧ JAt w' jb b (.slice none 0 0) j ∧ w.heap.size ≤ jb
set_option maxRecDepth 100000 in
set_option maxHeartbeats 2000000 in
theorem format_any (b mb : Nat) (m : DM) (base : ByteArray) (w : World) (h : DiskAt w b mb m) :
    Calls Tryz.prog 8 #[.pointer (some ⟨b, 0, none⟩), .string base] w (FormatPost b mb (formatF m base) w) := by
  have HD := Lib.hid h
  have hwf := Lib.hid h.wf
  have hjl := jsize_le h.wf
  clear h
  obtain ⟨z, hz⟩ : ∃ z, z = jsize m := ⟨_, rfl⟩
  rw [← hz] at hjl
  have HZ := Lib.hid hz
  clear hz
  go_enter Tryz.func8, Tryz.ntmps8
  go_wp2_with fail
  refine (jsize_any b mb m _ HD.out).mono ?_
  rintro e w1 ⟨rfl, hw1⟩
  have hw1 := hw1.symm
  subst hw1
  rw [← HZ.out]
  by_cases hz0 : z = 0
  · have g1 : ((z : Int) == 0) = true := by rw [hz0]; rfl
    have hF : Hid (formatF m base = (m, none, 1)) := Lib.hid (by unfold formatF; rw [if_pos (by rw [← HZ.out]; exact hz0)])
    clear hz0
    go_wp2_with fail
    go_ret2
    rw [hF.out]
    exact ⟨HD.out, Only.refl _ _, rfl⟩
  have g1 : ((z : Int) == 0) = false := by simpa using (by omega : ¬ ((z : Int) = 0))
  go_wp2_with fail
  refine (jsize_any b mb m _ HD.out).mono ?_
  rintro e w1 ⟨rfl, hw1⟩
  have hw1 := hw1.symm
  subst hw1
  rw [← HZ.out]
  go_wp2_with fail
  refine (fits_any base (z : Int) _).mono ?_
  rintro e w1 ⟨rfl, hw1⟩
  have hw1 := hw1.symm
  subst hw1
  obtain ⟨f, hf⟩ : ∃ f, f = fitsF base (z : Int) := ⟨_, rfl⟩
  rw [← hf]
  have HF := Lib.hid hf
  clear hf
  obtain ⟨f1, f2⟩ := f
  dsimp only
  by_cases hf2 : f2 = 0
  · have g2 : (f2 != 0) = false := by rw [hf2]; rfl
    have hlen := hwf.out.len
    have hb60 : base.size ≤ 60000 ∧ f1 = (sizeN base.size : Int) := by
      have h := HF.out
      unfold fitsF at h
      by_cases hb : 60000 < base.size
      · rw [if_pos hb] at h; injection h with _ h; omega
      · rw [if_neg hb] at h
        by_cases hr : (z : Int) < (sizeN base.size : Int)
        · rw [if_pos hr] at h; injection h with _ h; omega
        · rw [if_neg hr] at h; injection h with h _; exact ⟨by omega, h⟩
    have hF0 : Hid (formatF m base = if m.dead then (m, none, 74) else if 2147483648 < topN m m.S.length then (m, none, 73)
        else if (beginF m 0 (topN m m.S.length + 1) base).2 ≠ 0 then ((beginF m 0 (topN m m.S.length + 1) base).1, none, (beginF m 0 (topN m m.S.length + 1) base).2)
        else ((beginF m 0 (topN m m.S.length + 1) base).1, some ⟨0, base, [], topN m m.S.length + 2, sizeN base.size, false⟩, 0)) := Lib.hid (by
      unfold formatF; rw [if_neg (by rw [← HZ.out]; exact hz0), ← HZ.out, ← HF.out, if_neg (by simpa using hf2)])
    obtain ⟨N, hN⟩ : ∃ N, N = m.S.length := ⟨_, rfl⟩
    rw [← hN] at hlen
    have HN := Lib.hid hN
    have HB6 := Lib.hid hb60
    clear hN hf2 hz0 hb60
    go_wp2_with fail
    refine (size_any b mb m _ HD.out).mono ?_
    rintro e w1 ⟨rfl, hw1⟩
    have hw1 := hw1.symm
    subst hw1
    rw [← HN.out]
    go_wp2_with fail
    go_loopw [8, 28] (fun y x wr => ∃ i : Nat, i ≤ N ∧ x = .int .i64 i ∧ y = .int .u32 (topN m i : Int) ∧ Below w.heap.size w wr ∧ (0 < i → m.dead = false)) (fun _ x _ => N - (intOf x).toNat)
    case atStart => exact ⟨0, Nat.zero_le _, rfl, rfl, Below.refl _ _, fun h => by omega⟩
    case round =>
      obtain ⟨i, hi, rfl, rfl, hB, hdd⟩ := hrel
      have HB := Lib.hid hB
      have HDR := Lib.hid (HD.out.only (Only.of_below (S := fun _ => False) hB) (fun h => h) (fun h => h))
      have HDD := Lib.hid hdd
      clear hB hdd
      have htl := topN_lt m i
      by_cases hlt : i < N
      · go_wp2_with fail
        refine (read_any b mb m (i : Int) _ HDR.out).mono ?_
        rintro e w4 ⟨rfl, hb4⟩
        have HB4 := Lib.hid (HB.out.trans (hb4.mono HB.out.size))
        clear hb4
        cases hde : m.dead
        · have hr : m.read (i : Int) = (m.at i, 0) := by
            unfold DM.read DM.may DM.good
            rw [hde, ← HN.out]
            simp [hlt]
          have hsz : (m.at i).size = 256 := DM.at_size hwf.out (by rw [← HN.out]; exact hlt)
          rw [hr]
          obtain ⟨x, hx⟩ : ∃ x, x = m.at i := ⟨_, rfl⟩
          rw [← hx] at hsz ⊢
          have HX := Lib.hid hx
          have HS := Lib.hid hsz
          have HDE := Lib.hid hde
          clear hr hx hsz hde
          dsimp only
          go_wp2_with fail
          refine (frNum_any x (by rw [HS.out]; simp [maxLen]) _).mono ?_
          rintro e w5 ⟨rfl, hb5⟩
          have HB5 := Lib.hid (HB4.out.trans (hb5.mono HB4.out.size))
          clear hb5
          go_wp2_with fail
          refine ⟨⟨i + 1, by omega, by go_num, ?_, HB5.out, fun _ => HDE.out⟩, ?_⟩
          · show Value.int .u32 (max (topN m i : Int) (secNum x : Int)) = Value.int .u32 ((max (topN m i) (secNum (m.at i)) : Nat) : Int)
            rw [← HX.out]
            congr 1
            omega
          · simp [intOf]; omega
        · have hr : (m.read (i : Int)).2 = 74 := by
            unfold DM.read DM.may
            rw [hde]; rfl
          rw [hr]
          have hF : Hid (formatF m base = (m, none, 74)) := Lib.hid (by rw [hF0.out, hde]; rfl)
          clear hde hr
          go_wp2_with fail
          go_ret2
          rw [hF.out]
          exact ⟨HD.out.only (Only.of_below (S := fun _ => False) HB4.out) (fun h => h) (fun h => h), Only.of_below HB4.out, rfl⟩
      · have hiN : i = N := by omega
        have hdead := HDD.out (by omega)
        rw [hiN]
        have htl2 := topN_lt m N
        obtain ⟨T, hT⟩ : ∃ T, T = topN m N := ⟨_, rfl⟩
        rw [← hT] at htl2 ⊢
        have hF1 : Hid (formatF m base = if 2147483648 < T then (m, none, 73) else if (beginF m 0 (T + 1) base).2 ≠ 0 then ((beginF m 0 (T + 1) base).1, none, (beginF m 0 (T + 1) base).2)
            else ((beginF m 0 (T + 1) base).1, some ⟨0, base, [], T + 2, sizeN base.size, false⟩, 0)) := Lib.hid (by rw [hF0.out, hdead, ← HN.out, ← hT]; rfl)
        clear hT hdead htl
        by_cases hTb : 2147483648 < T
        · have g3 : (2147483648 : Int) < (T : Int) := by omega
          have hF : Hid (formatF m base = (m, none, 73)) := Lib.hid (by rw [hF1.out, if_pos hTb])
          clear hTb
          go_wp2_with fail
          go_ret2
          rw [hF.out]
          exact ⟨HDR.out, Only.of_below HB.out, rfl⟩
        · have g3 : ¬ (2147483648 : Int) < (T : Int) := by omega
          have hF2 : Hid (formatF m base = if (beginF m 0 (T + 1) base).2 ≠ 0 then ((beginF m 0 (T + 1) base).1, none, (beginF m 0 (T + 1) base).2) else ((beginF m 0 (T + 1) base).1, some ⟨0, base, [], T + 2, sizeN base.size, false⟩, 0)) := Lib.hid (by rw [hF1.out, if_neg hTb])
          obtain ⟨T1, hT1⟩ : ∃ T1, T1 = T + 1 := ⟨_, rfl⟩
          have w1 : IntKind.u32.wrap ((T : Int) + 1) = (T1 : Int) := by rw [IntKind.wrap_u32]; omega
          obtain ⟨T2, hT2⟩ : ∃ T2, T2 = T + 2 := ⟨_, rfl⟩
          have w2 : IntKind.u32.wrap ((T : Int) + 2) = (T2 : Int) := by rw [IntKind.wrap_u32]; omega
          have hT29 : T2 < 4294967296 := by omega
          rw [← hT1, ← hT2] at hF2
          have hT19 : T1 < 4294967296 := by omega
          clear hTb hT1 hT2
          go_wp2_with fail
          refine (begin_any b mb m 0 (by omega) T1 hT19 base _ HDR.out).mono ?_
          rintro e w4 ⟨rfl, hd4, ho4⟩
          have HO4 := Lib.hid ((Only.of_below HB.out).trans ho4)
          obtain ⟨r, hr⟩ : ∃ r, r = beginF m 0 T1 base := ⟨_, rfl⟩
          rw [← hr] at hd4 hF2 ⊢
          clear hr ho4
          obtain ⟨m4, er⟩ := r
          dsimp only at hd4 hF2 ⊢
          have HD4 := Lib.hid hd4
          clear hd4
          by_cases he : er = 0
          · have g4 : (er != 0) = false := by rw [he]; rfl
            have hF : Hid (formatF m base = (m4, some ⟨0, base, [], T2, sizeN base.size, false⟩, 0)) := Lib.hid (by rw [hF2.out, if_neg (by simpa using he)])
            clear he
            go_wp2_with fail
            go_ret2
            rw [hF.out]
            have hsn := sizeN_le HB6.out.1
            refine ⟨HD4.out.only (Only.of_below (S := fun _ => False) ((Below.refl _ _).alloc (Nat.le_refl _) _)) (fun h => h) (fun h => h), HO4.out.alloc _, w4.heap.size, rfl, ⟨⟨by show 0 ≤ 1; omega, hT29, by show sizeN base.size ≤ 100000; omega, by show 0 ≤ 1000000; omega⟩, ?_, ⟨rfl, .inl ⟨rfl, rfl⟩⟩⟩, HO4.out.size⟩
            have := Blk.new w4 (jRow b (.slice none 0 0) ⟨0, base, [], T2, sizeN base.size, false⟩) 73
            unfold jRow at this ⊢
            dsimp only at this ⊢
            rw [← HB6.out.2] at this ⊢
            exact this
          · have g4 : (er != 0) = true := by simpa using he
            have hF : Hid (formatF m base = (m4, none, er)) := Lib.hid (by rw [hF2.out, if_pos he])
            clear he
            go_wp2_with fail
            go_ret2
            rw [hF.out]
            exact ⟨HD4.out, HO4.out, rfl⟩
  · have g2 : (f2 != 0) = true := by simpa using hf2
    have hF : Hid (formatF m base = (m, none, f2)) := Lib.hid (by unfold formatF; rw [if_neg (by rw [← HZ.out]; exact hz0), ← HZ.out, ← HF.out, if_pos hf2])
    clear hf2 hz0
    go_wp2_with fail
    go_ret2
    rw [hF.out]
    exact ⟨HD.out, Only.refl _ _, rfl⟩
end Go.Proofs.YtcakellhellddaaGreatDoor
