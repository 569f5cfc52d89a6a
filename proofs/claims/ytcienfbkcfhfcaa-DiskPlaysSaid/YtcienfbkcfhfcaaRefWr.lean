import Derived.Test.YtcienfbkcfhfcaaRefAt
set_option linter.unusedSimpArgs false
set_option linter.unusedVariables false
namespace Go.Proofs.Ytcienfbkcfhfcaa
open Go.RowKit
theorem ref_write_refused (b sb : Nat) (m : DM) (i : Int) (s : ByteArray) (w : World) (h : RefAt w b sb m) (hz : m.may i ≠ 0 ∨ s.size ≠ 256) :
    Calls Try.prog 26 #[.pointer (some ⟨b, 0, none⟩), .int .i64 i, .string s] w fun e w' => e = .returned (.int .i64 (m.write i s).2) ∧ (m.write i s).1 = m ∧ w' = w := by
  obtain ⟨hne, hwf, l, cap, cur, hb, hm, hs1, hs2, hs, hl⟩ := h
  have hlen := hwf.len
  have c0 : w.cell? ⟨b, 0, none⟩ = some (.slice (some ⟨sb, 0, none⟩) m.S.length cap) := hb.cell 0
  have c1 : w.cell? ⟨b, 1, none⟩ = some (.bool m.dead) := hb.cell 1
  have hw : m.write i s = (m, if m.may i ≠ 0 then m.may i else 1) := by
    unfold DM.write
    by_cases h1 : m.may i = 0
    · have h2 : s.size ≠ 256 := by rcases hz with h | h; exact absurd h1 h; exact h
      simp [h1, h2]
    · simp [h1]
  rw [hw]
  have hmay : m.may i = if m.dead then 74 else if decide (0 ≤ i ∧ i < m.S.length) then 0 else 1 := rfl
  clear hw hb hm hs hl hwf
  obtain ⟨n, hn⟩ : ∃ n, n = m.S.length := ⟨_, rfl⟩
  rw [← hn] at c0 hmay hs1 hlen
  clear hn
  cases hd : m.dead
  · rw [hd] at c1 hmay
    simp only [Bool.false_eq_true, if_false] at hmay
    clear hd
    by_cases h0 : 0 ≤ i
    · by_cases h1 : i < n
      · have hm0 : m.may i = 0 := by rw [hmay]; simp [h0, h1]
        rw [hm0]
        have h2 : ((s.size : Int) != 256) = true := by
          have : s.size ≠ 256 := by rcases hz with h | h; exact absurd hm0 h; exact h
          simpa using (by omega : ¬ ((s.size : Int) = 256))
        clear hmay hm0 hz
        go_enter Try.func26, Try.ntmps26
        go_wp2
        go_ret
        exact ⟨rfl, rfl⟩
      · have hm0 : m.may i = 1 := by rw [hmay]; simp [h1]
        rw [hm0]
        clear hmay hm0 hz
        go_enter Try.func26, Try.ntmps26
        go_wp2
        go_ret
        exact ⟨rfl, rfl⟩
    · have hm0 : m.may i = 1 := by rw [hmay]; simp [h0]
      rw [hm0]
      clear hmay hm0 hz
      go_enter Try.func26, Try.ntmps26
      go_wp2
      go_ret
      exact ⟨rfl, rfl⟩
  · rw [hd] at c1 hmay
    rw [if_pos rfl] at hmay
    rw [hmay]
    clear hmay hd hz
    go_enter Try.func26, Try.ntmps26
    go_wp2
    go_ret
    exact ⟨rfl, rfl⟩
set_option maxHeartbeats 1000000 in
theorem ref_write_goes (b sb : Nat) (m : DM) (i : Nat) (s : ByteArray) (w : World) (h : RefAt w b sb m) (hz : m.may i = 0) (hs : s.size = 256) (hc : m.cuts = false) :
    Calls Try.prog 26 #[.pointer (some ⟨b, 0, none⟩), .int .i64 i, .string s] w fun e w' => e = .returned (.int .i64 (m.write i s).2) ∧ RefAt w' b sb (m.write i s).1 ∧ Only (own2 b sb) w w' := by
  have hwf' := DM.write_wf h.wf i s
  have HR : Hid (m.write i s = ({ m with S := m.S.set i s, left := m.left - 1, writes := wrap64 (m.writes + 1) }, 0)) := by
    refine Lib.hid ?_; unfold DM.write; rw [if_neg (by simpa using hz), if_neg (by simpa using hs), hc]; rfl
  obtain ⟨hdd, _, hi⟩ := DM.good_of_may hz
  have hi2 : i < m.S.length := by omega
  rw [HR.out] at hwf' ⊢
  obtain ⟨hne, hwf, l, cap, cur, hb, hm, hs1, hs2, hse, hl⟩ := h
  have hlen := hwf.len
  have hb0 : ((s.size : Int) != 256) = false := by rw [hs]; rfl
  have c0 : w.cell? ⟨b, 0, none⟩ = some (.slice (some ⟨sb, 0, none⟩) m.S.length cap) := hb.cell 0
  have c1 : w.cell? ⟨b, 1, none⟩ = some (.bool false) := (hb.cell 1).trans (by rw [← hdd]; rfl)
  have c2 : w.cell? ⟨b, 2, none⟩ = some (.bool m.armed) := hb.cell 2
  have c3 : w.cell? ⟨b, 3, none⟩ = some (.int .i64 l) := hb.cell 3
  have c5 : w.cell? ⟨b, 5, none⟩ = some (.int .i64 m.writes) := hb.cell 5
  have f3 := hb.free 3
  have f5 := hb.free 5
  have ci : w.cell? ⟨sb, i, none⟩ = some (.string (m.at i)) := (hm.cell i).trans (hse i hi2)
  have fi := hm.free i
  have hbd := hwf.left
  -- the end, by whether it is armed
  have fin : ∀ l', (m.armed = true → l' = m.left - 1) → ∀ w1, Blk w1 b (refRow sb cap l' m) 54 → Blk w1 sb cur 9 → Only (own2 b sb) w w1 →
      RefAt ((w1.setCell ⟨sb, i, none⟩ (.string s)).setCell ⟨b, 5, none⟩ (.int .i64 (wrap64 (m.writes + 1)))) b sb { m with S := m.S.set i s, left := m.left - 1, writes := wrap64 (m.writes + 1) } ∧ Only (own2 b sb) w ((w1.setCell ⟨sb, i, none⟩ (.string s)).setCell ⟨b, 5, none⟩ (.int .i64 (wrap64 (m.writes + 1)))) := by
    intro l' hl' w1 hb1 hm1 ho1
    have hb2 := (hb1.setCell_other (a := ⟨sb, i, none⟩) hne (.string s)).setCell 5 (.int .i64 (wrap64 (m.writes + 1)))
    have hm2 := (hm1.setCell i (.string s)).setCell_other (a := ⟨b, 5, none⟩) (Ne.symm hne) (.int .i64 (wrap64 (m.writes + 1)))
    refine ⟨⟨hne, hwf', l', cap, _, ?_, hm2, ?_, hs2, ?_, hl'⟩, (ho1.setCell (fun _ => .inr rfl) _).setCell (fun _ => .inl rfl) _⟩
    · have e : (refRow sb cap l' m).setIfInBounds 5 (.int .i64 (wrap64 (m.writes + 1))) = refRow sb cap l' { m with S := m.S.set i s, left := m.left - 1, writes := wrap64 (m.writes + 1) } := by
        simp [refRow]
      rw [← e]; exact hb2
    · simpa using hs1
    · intro j hj
      have hj' : j < m.S.length := by simpa using hj
      by_cases hji : j = i
      · subst hji
        have hjc : j < cur.size := (Array.getElem?_eq_some_iff.1 (hse j hj')).1
        simp [DM.at, hj', hjc]
      · have e1 : DM.at { m with S := m.S.set i s, left := m.left - 1, writes := wrap64 (m.writes + 1) } j = m.at j := DM.at_ne rfl hji
        rw [e1, Array.getElem?_setIfInBounds_ne (Ne.symm hji)]
        exact hse j hj'
  have FIN := Lib.hid fin
  have hin : (i : Int) < m.S.length := hi
  obtain ⟨n, hn⟩ : ∃ n, n = m.S.length := ⟨_, rfl⟩
  rw [← hn] at c0 hin hs1 hlen hi2
  clear hn
  obtain ha | ha : m.armed = false ∨ m.armed = true := by cases m.armed <;> simp
  · rw [ha] at c2
    have E := FIN.out l (fun h => by rw [ha] at h; cases h) w hb hm (Only.refl _ _)
    have HE := Lib.hid E
    clear E FIN fin ha hi hz hs hc hl hb hm hse hwf hwf' hbd HR
    go_enter Try.func26, Try.ntmps26
    go_wp2
    go_ret
    exact ⟨rfl, HE.out⟩
  · rw [ha] at c2
    have hl0 : (l == 0) = false := by
      have := hl ha
      unfold DM.cuts at hc
      rw [ha] at hc
      simp at hc
      rw [this]; simpa using hc
    have h1 := hl ha
    have h2 := hbd ha
    have hw1 : wrap64 (l - 1) = m.left - 1 := by rw [h1]; exact IntWalk.wrap64_in _ (by omega)
    have hb1 := hb.setCell 3 (.int .i64 (wrap64 (l - 1)))
    have e : (refRow sb cap l m).setIfInBounds 3 (.int .i64 (wrap64 (l - 1))) = refRow sb cap (wrap64 (l - 1)) m := by simp [refRow]
    rw [e] at hb1
    have hm1 := hm.setCell_other (a := ⟨b, 3, none⟩) (Ne.symm hne) (.int .i64 (wrap64 (l - 1)))
    have E := FIN.out (wrap64 (l - 1)) (fun _ => hw1) _ hb1 hm1 ((Only.refl _ _).setCell (fun _ => .inl rfl) _)
    have HE := Lib.hid E
    clear E FIN fin ha hi hz hs hc hl hb hm hse hwf hwf' hbd HR h1 h2 hw1 hb1 hm1 e
    go_enter Try.func26, Try.ntmps26
    go_wp2
    go_ret
    exact ⟨rfl, HE.out⟩
set_option maxHeartbeats 2000000 in
set_option maxRecDepth 100000 in
theorem ref_write_cut (b sb : Nat) (m : DM) (i : Nat) (s : ByteArray) (w : World) (h : RefAt w b sb m) (hz : m.may i = 0) (hs : s.size = 256) (hc : m.cuts = true) :
    Calls Try.prog 26 #[.pointer (some ⟨b, 0, none⟩), .int .i64 i, .string s] w fun e w' => e = .returned (.int .i64 (m.write i s).2) ∧ RefAt w' b sb (m.write i s).1 ∧ Only (own2 b sb) w w' := by
  have hwf' := DM.write_wf h.wf i s
  have HR : Hid (m.write i s = ({ m with S := m.S.set i (torn m.part s (m.at i)), dead := true, armed := false }, 74)) := by
    refine Lib.hid ?_; unfold DM.write; rw [if_neg (by simpa using hz), if_neg (by simpa using hs), hc]; rfl
  obtain ⟨hdd, _, hi⟩ := DM.good_of_may hz
  have hi2 : i < m.S.length := by omega
  rw [HR.out] at hwf' ⊢
  obtain ⟨hne, hwf, l, cap, cur, hb, hm, hs1, hs2, hse, hl⟩ := h
  have hlen := hwf.len
  have hat := DM.at_size hwf hi2
  have hpart := hwf.part
  have hb0 : ((s.size : Int) != 256) = false := by rw [hs]; rfl
  have hl0 : l = 0 := by
    unfold DM.cuts at hc
    simp at hc
    rw [hl hc.1, hc.2]
  subst hl0
  have ha : m.armed = true := by unfold DM.cuts at hc; simp at hc; exact hc.1
  have c0 : w.cell? ⟨b, 0, none⟩ = some (.slice (some ⟨sb, 0, none⟩) m.S.length cap) := hb.cell 0
  have c1 : w.cell? ⟨b, 1, none⟩ = some (.bool false) := (hb.cell 1).trans (by rw [← hdd]; rfl)
  have c2 : w.cell? ⟨b, 2, none⟩ = some (.bool true) := (hb.cell 2).trans (by rw [← ha]; rfl)
  have c3 : w.cell? ⟨b, 3, none⟩ = some (.int .i64 0) := hb.cell 3
  have c4 : w.cell? ⟨b, 4, none⟩ = some (.int .i64 (m.part : Int)) := hb.cell 4
  have f1 := hb.free 1
  have f2 := hb.free 2
  have ci : w.cell? ⟨sb, i, none⟩ = some (.string (m.at i)) := (hm.cell i).trans (hse i hi2)
  have fi := hm.free i
  obtain ⟨t, ht⟩ : ∃ t, t = torn m.part s (m.at i) := ⟨_, rfl⟩
  have fin : ∀ w1, Blk w1 b (refRow sb cap 0 m) 54 → Blk w1 sb cur 9 → Only (own2 b sb) w w1 →
      RefAt (((w1.setCell ⟨sb, i, none⟩ (.string t)).setCell ⟨b, 1, none⟩ (.bool true)).setCell ⟨b, 2, none⟩ (.bool false)) b sb { m with S := m.S.set i (torn m.part s (m.at i)), dead := true, armed := false } ∧
      Only (own2 b sb) w (((w1.setCell ⟨sb, i, none⟩ (.string t)).setCell ⟨b, 1, none⟩ (.bool true)).setCell ⟨b, 2, none⟩ (.bool false)) := by
    intro w1 hb0 hm0 ho0
    have hb1 := ((hb0.setCell_other (a := ⟨sb, i, none⟩) hne (.string t)).setCell 1 (.bool true)).setCell 2 (.bool false)
    have hm1 := ((hm0.setCell i (.string t)).setCell_other (a := ⟨b, 1, none⟩) (Ne.symm hne) (.bool true)).setCell_other (a := ⟨b, 2, none⟩) (Ne.symm hne) (.bool false)
    rw [← ht]
    rw [← ht] at hwf'
    refine ⟨⟨hne, hwf', 0, cap, _, ?_, hm1, ?_, hs2, ?_, fun h => by cases h⟩, ((ho0.setCell (fun _ => .inr rfl) _).setCell (fun _ => .inl rfl) _).setCell (fun _ => .inl rfl) _⟩
    · have e : ((refRow sb cap 0 m).setIfInBounds 1 (.bool true)).setIfInBounds 2 (.bool false) = refRow sb cap 0 { m with S := m.S.set i t, dead := true, armed := false } := by
        simp [refRow]
      rw [← e]; exact hb1
    · simpa using hs1
    · intro j hj
      have hj' : j < m.S.length := by simpa using hj
      by_cases hji : j = i
      · subst hji
        have hjc : j < cur.size := (Array.getElem?_eq_some_iff.1 (hse j hj')).1
        simp [DM.at, hj', hjc]
      · have e1 : DM.at { m with S := m.S.set i t, dead := true, armed := false } j = m.at j := DM.at_ne rfl hji
        rw [e1, Array.getElem?_setIfInBounds_ne (Ne.symm hji)]
        exact hse j hj'
  have e0 := fin w hb hm (Only.refl _ _)
  rw [ht] at e0
  unfold torn at e0
  have FIN := Lib.hid e0
  clear e0 fin
  unfold torn
  have hin : (i : Int) < m.S.length := hi
  have hp1 : m.part ≤ s.size := by omega
  have hp2 : m.part ≤ (m.at i).size := by omega
  have hp3 : ¬ 9223372036854775807 < s.size := by omega
  have hp4 : ¬ 9223372036854775807 < (m.at i).size := by omega
  clear hat
  generalize m.at i = u at *
  generalize m.part = p at *
  obtain ⟨n, hn⟩ : ∃ n, n = m.S.length := ⟨_, rfl⟩
  rw [← hn] at c0 hin hs1 hlen hi2
  clear hn
  clear hi hz hs hc hl hse hwf hwf' HR ht hdd ha hb hm
  go_enter Try.func26, Try.ntmps26
  go_wp2_with fail
  refine wp_region_held_drew (S := fun w1 => w1.cell? ⟨b, 0, none⟩ = some (.slice (some ⟨sb, 0, none⟩) n cap) ∧ w1.cell? ⟨b, 4, none⟩ = some (.int .i64 (p : Int))) (by kernel_rfl) ?_ (fun hHeld => ?_)
  · exact ⟨c0, c4⟩
  refine take_op 0 (some 38) (v := ?_) rfl rfl (by kernel_rfl) (by kernel_rfl) (by kernel_rfl) (fun _ _ _ h => h) (Or.inl ⟨by rfl, ?_⟩) (by assumption) ?_
  rotate_left
  · intro w_ hSw_; (try dsimp only at hSw_); go_simp; (try with_reducible rfl)
  try simp only [Act.put, List.setIfInBounds_toArray, List.set_cons_zero, List.set_cons_succ]
  refine take_op 1 (some 39) (v := ?_) rfl rfl (by kernel_rfl) (by kernel_rfl) (by kernel_rfl) (fun _ _ _ h => h) (Or.inl ⟨by rfl, ?_⟩) (by assumption) ?_
  rotate_left
  · intro w_ hSw_; (try dsimp only at hSw_); go_simp; (try with_reducible rfl)
  try simp only [Act.put, List.setIfInBounds_toArray, List.set_cons_zero, List.set_cons_succ]
  refine take_op 2 (some 40) (v := ?_) rfl rfl (by kernel_rfl) (by kernel_rfl) (by kernel_rfl) (fun _ _ _ h => h) (Or.inl ⟨by rfl, ?_⟩) (by assumption) ?_
  rotate_left
  · intro w_ hSw_; (try dsimp only at hSw_); go_simp; (try with_reducible rfl)
  try simp only [Act.put, List.setIfInBounds_toArray, List.set_cons_zero, List.set_cons_succ]
  refine take_op 3 (some 41) (v := ?_) rfl rfl (by kernel_rfl) (by kernel_rfl) (by kernel_rfl) (fun _ _ _ h => h) (Or.inl ⟨by rfl, ?_⟩) (by assumption) ?_
  rotate_left
  · intro w_ hSw_; (try dsimp only at hSw_); go_simp; (try with_reducible rfl)
  try simp only [Act.put, List.setIfInBounds_toArray, List.set_cons_zero, List.set_cons_succ]
  refine take_op 4 (some 42) (v := ?_) rfl rfl (by kernel_rfl) (by kernel_rfl) (by kernel_rfl) (fun _ _ _ h => h) (Or.inl ⟨by rfl, ?_⟩) (by assumption) ?_
  rotate_left
  · intro w_ hSw_; (try dsimp only at hSw_); go_simp; (try with_reducible rfl)
  try simp only [Act.put, List.setIfInBounds_toArray, List.set_cons_zero, List.set_cons_succ]
  refine take_op 5 (some 43) (v := ?_) rfl rfl (by kernel_rfl) (by kernel_rfl) (by kernel_rfl) (fun _ _ _ h => h) (Or.inl ⟨by rfl, ?_⟩) (by assumption) ?_
  rotate_left
  · intro w_ hSw_; (try dsimp only at hSw_); go_simp; (try with_reducible rfl)
  try simp only [Act.put, List.setIfInBounds_toArray, List.set_cons_zero, List.set_cons_succ]
  refine take_op 6 (some 44) (v := ?_) rfl rfl (by kernel_rfl) (by kernel_rfl) (by kernel_rfl) (fun _ _ _ h => h) (Or.inl ⟨by rfl, ?_⟩) (by assumption) ?_
  rotate_left
  · intro w_ hSw_; (try dsimp only at hSw_); go_simp; (try with_reducible rfl)
  try simp only [Act.put, List.setIfInBounds_toArray, List.set_cons_zero, List.set_cons_succ]
  refine take_op 7 (some 45) (v := ?_) rfl rfl (by kernel_rfl) (by kernel_rfl) (by kernel_rfl) (fun _ _ _ h => h) (Or.inl ⟨by rfl, ?_⟩) (by assumption) ?_
  rotate_left
  · intro w_ hSw_; (try dsimp only at hSw_); go_simp; (try with_reducible rfl)
  try simp only [Act.put, List.setIfInBounds_toArray, List.set_cons_zero, List.set_cons_succ]
  refine take_op 8 (some 46) (v := ?_) rfl rfl (by kernel_rfl) (by kernel_rfl) (by kernel_rfl) (fun _ _ _ h => h) (Or.inl ⟨by rfl, ?_⟩) (by assumption) ?_
  rotate_left
  · intro w_ hSw_; (try dsimp only at hSw_); go_simp; (try with_reducible rfl)
  try simp only [Act.put, List.setIfInBounds_toArray, List.set_cons_zero, List.set_cons_succ]
  refine take_op 9 (some 47) (v := ?_) rfl rfl (by kernel_rfl) (by kernel_rfl) (by kernel_rfl) (fun _ _ _ h => h) (Or.inl ⟨by rfl, ?_⟩) (by assumption) ?_
  rotate_left
  · intro w_ hSw_; (try dsimp only at hSw_); go_simp; (try with_reducible rfl)
  try simp only [Act.put, List.setIfInBounds_toArray, List.set_cons_zero, List.set_cons_succ]
  refine take_op 10 (some 48) (v := ?_) rfl rfl (by kernel_rfl) (by kernel_rfl) (by kernel_rfl) (fun _ _ _ h => h) (Or.inl ⟨by rfl, ?_⟩) (by assumption) ?_
  rotate_left
  · intro w_ hSw_; (try dsimp only at hSw_); go_simp; (try with_reducible rfl)
  try simp only [Act.put, List.setIfInBounds_toArray, List.set_cons_zero, List.set_cons_succ]
  refine take_op 11 (some 49) (v := ?_) rfl rfl (by kernel_rfl) (by kernel_rfl) (by kernel_rfl) (fun _ _ _ h => h) (Or.inl ⟨by rfl, ?_⟩) (by assumption) ?_
  rotate_left
  · intro w_ hSw_; (try dsimp only at hSw_); go_simp; (try with_reducible rfl)
  try simp only [Act.put, List.setIfInBounds_toArray, List.set_cons_zero, List.set_cons_succ]
  refine take_op 12 (some 50) (v := ?_) rfl rfl (by kernel_rfl) (by kernel_rfl) (by kernel_rfl) (fun _ _ _ h => h) (Or.inl ⟨by rfl, ?_⟩) (by assumption) ?_
  rotate_left
  · intro w_ hSw_; (try dsimp only at hSw_); go_simp; (try with_reducible rfl)
  try simp only [Act.put, List.setIfInBounds_toArray, List.set_cons_zero, List.set_cons_succ]
  refine take_op 13 (some 51) (v := ?_) rfl rfl (by kernel_rfl) (by kernel_rfl) (by kernel_rfl) (fun _ _ _ h => h) (Or.inl ⟨by rfl, ?_⟩) (by assumption) ?_
  rotate_left
  · intro w_ hSw_; (try dsimp only at hSw_); go_simp; (try with_reducible rfl)
  try simp only [Act.put, List.setIfInBounds_toArray, List.set_cons_zero, List.set_cons_succ]
  refine take_op 14 (some 52) (v := ?_) rfl rfl (by kernel_rfl) (by kernel_rfl) (by kernel_rfl) (fun _ _ _ h => h) (Or.inl ⟨by rfl, ?_⟩) (by assumption) ?_
  rotate_left
  · intro w_ hSw_; (try dsimp only at hSw_); go_simp; (try with_reducible rfl)
  try simp only [Act.put, List.setIfInBounds_toArray, List.set_cons_zero, List.set_cons_succ]
  refine take_op 15 (some 53) (v := ?_) rfl rfl (by kernel_rfl) (by kernel_rfl) (by kernel_rfl) (fun _ _ _ h => h) (Or.inl ⟨by rfl, ?_⟩) (by assumption) ?_
  rotate_left
  · intro w_ hSw_; (try dsimp only at hSw_); go_simp; (try with_reducible rfl)
  try simp only [Act.put, List.setIfInBounds_toArray, List.set_cons_zero, List.set_cons_succ]
  refine take_op 16 (some 54) (v := ?_) rfl rfl (by kernel_rfl) (by kernel_rfl) (by kernel_rfl) (fun _ _ _ h => h) (Or.inl ⟨by rfl, ?_⟩) (by assumption) ?_
  rotate_left
  · intro w_ hSw_; (try dsimp only at hSw_); go_simp; (try with_reducible rfl)
  try simp only [Act.put, List.setIfInBounds_toArray, List.set_cons_zero, List.set_cons_succ]
  refine take_op 18 (some 56) (v := ?_) rfl rfl (by kernel_rfl) (by kernel_rfl) (by kernel_rfl) (fun _ _ _ h => h) (Or.inl ⟨by rfl, ?_⟩) (by assumption) ?_
  rotate_left
  · intro w_ hSw_; (try dsimp only at hSw_); go_simp; (try with_reducible rfl)
  try simp only [Act.put, List.setIfInBounds_toArray, List.set_cons_zero, List.set_cons_succ]
  refine take_op 19 (some 57) (v := ?_) rfl rfl (by kernel_rfl) (by kernel_rfl) (by kernel_rfl) (fun _ _ _ h => h) (Or.inl ⟨by rfl, ?_⟩) (by assumption) ?_
  rotate_left
  · intro w_ hSw_; (try dsimp only at hSw_); go_simp; (try with_reducible rfl)
  try simp only [Act.put, List.setIfInBounds_toArray, List.set_cons_zero, List.set_cons_succ]
  refine take_op 20 (some 58) (v := ?_) rfl rfl (by kernel_rfl) (by kernel_rfl) (by kernel_rfl) (fun _ _ _ h => h) (Or.inl ⟨by rfl, ?_⟩) (by assumption) ?_
  rotate_left
  · intro w_ hSw_; (try dsimp only at hSw_); go_simp; (try with_reducible rfl)
  try simp only [Act.put, List.setIfInBounds_toArray, List.set_cons_zero, List.set_cons_succ]
  refine take_op 21 (some 59) (v := ?_) rfl rfl (by kernel_rfl) (by kernel_rfl) (by kernel_rfl) (fun _ _ _ h => h) (Or.inl ⟨by rfl, ?_⟩) (by assumption) ?_
  rotate_left
  · intro w_ hSw_; (try dsimp only at hSw_); go_simp; (try with_reducible rfl)
  try simp only [Act.put, List.setIfInBounds_toArray, List.set_cons_zero, List.set_cons_succ]
  refine go_op 17 rfl (by kernel_rfl) (fun K_ hK_ => ?_)
  go_simp
  refine hK_.out _ _ ?_ (fun hHeld_ => ?_)
  · exact ⟨c0, c4⟩
  refine take_op 22 (some 60) (v := ?_) rfl rfl (by kernel_rfl) (by kernel_rfl) (by kernel_rfl) (fun _ _ _ h => h) (Or.inl ⟨by rfl, ?_⟩) (by assumption) ?_
  rotate_left
  · intro w_ hSw_; (try dsimp only at hSw_); go_simp; (try with_reducible rfl)
  try simp only [Act.put, List.setIfInBounds_toArray, List.set_cons_zero, List.set_cons_succ]
  refine take_op 23 (some 61) (v := ?_) rfl rfl (by kernel_rfl) (by kernel_rfl) (by kernel_rfl) (fun _ _ _ h => h) (Or.inl ⟨by rfl, ?_⟩) (by assumption) ?_
  rotate_left
  · intro w_ hSw_; (try dsimp only at hSw_); go_simp; (try with_reducible rfl)
  try simp only [Act.put, List.setIfInBounds_toArray, List.set_cons_zero, List.set_cons_succ]
  refine take_op 24 (some 62) (v := ?_) rfl rfl (by kernel_rfl) (by kernel_rfl) (by kernel_rfl) (fun _ _ _ h => h) (Or.inl ⟨by rfl, ?_⟩) (by assumption) ?_
  rotate_left
  · intro w_ hSw_; (try dsimp only at hSw_); go_simp; (try with_reducible rfl)
  try simp only [Act.put, List.setIfInBounds_toArray, List.set_cons_zero, List.set_cons_succ]
  refine go_op 25 rfl (by kernel_rfl) (fun K_ hK_ => ?_)
  go_simp
  refine hK_.out _ _ ?_ (fun hHeld_ => ?_)
  · go_simp
  refine wpAnyH_done (by kernel_rfl) ?_ _
  go_wp2
  go_ret
  exact ⟨rfl, ⟨FIN.out.1.ne, FIN.out.1.wf, FIN.out.1.at_⟩, FIN.out.2.drew⟩
theorem ref_write (b sb : Nat) (m : DM) (i : Int) (s : ByteArray) (w : World) (h : RefAt w b sb m) :
    Calls Try.prog 26 #[.pointer (some ⟨b, 0, none⟩), .int .i64 i, .string s] w fun e w' => e = .returned (.int .i64 (m.write i s).2) ∧ RefAt w' b sb (m.write i s).1 ∧ Only (own2 b sb) w w' := by
  by_cases hz : m.may i = 0
  · by_cases h2 : s.size = 256
    · obtain ⟨_, h0, _⟩ := DM.good_of_may hz
      obtain ⟨j, rfl⟩ := Int.eq_ofNat_of_zero_le h0
      cases hc : m.cuts
      · exact ref_write_goes b sb m j s w h hz h2 hc
      · exact ref_write_cut b sb m j s w h hz h2 hc
    · refine (ref_write_refused b sb m i s w h (.inr h2)).mono ?_
      rintro e w' ⟨he, h1, rfl⟩
      exact ⟨he, by rw [h1]; exact h, Only.refl _ _⟩
  · refine (ref_write_refused b sb m i s w h (.inl hz)).mono ?_
    rintro e w' ⟨he, h1, rfl⟩
    exact ⟨he, by rw [h1]; exact h, Only.refl _ _⟩
end Go.Proofs.Ytcienfbkcfhfcaa
