import Derived.Test.YtcakellhellddaaGreatDoorDiskFns
import Derived.Test.YtcakellhellddaaGreatDoorTy
import Derived.Test.YtcakellhellddaaGreatDoorSteps
import Derived.Test.YtcakellhellddaaGreatDoorKeep2
set_option linter.unusedSimpArgs false
set_option linter.unusedVariables false
namespace Go.Proofs.YtcakellhellddaaGreatDoor
open Go.RowKit
/-! The reference's disk: the same plain model. -/
def refRow (sb cap : Nat) (l : Int) (m : DM) : Array Value :=
  #[.slice (some ⟨sb, 0, none⟩) m.S.length cap, .bool m.dead, .bool m.armed, .int .i64 l, .int .i64 (m.part : Int), .int .i64 m.writes]
/-- A reference disk: its block b, its sectors' row sb. -/
structure RefAt (w : World) (b sb : Nat) (m : DM) : Prop where
  ne : b ≠ sb
  wf : m.wf
  at_ : ∃ l cap cur, Blk w b (refRow sb cap l m) 52 ∧ Blk w sb cur 9 ∧ m.S.length ≤ cap ∧ cap ≤ maxLen ∧ (∀ i, i < m.S.length → cur[i]? = some (.string (m.at i))) ∧ (m.armed = true → l = m.left)
theorem RefAt.only {S : Nat → Prop} {w w' : World} {b mb : Nat} {m : DM} (h : RefAt w b mb m) (ho : Only S w w') (h1 : ¬ S b) (h2 : ¬ S mb) : RefAt w' b mb m := by
  obtain ⟨hne, hwf, l, cap, cur, hb, hm, hs, hl⟩ := h
  exact ⟨hne, hwf, l, cap, cur, ho.blk hb h1, ho.blk hm h2, hs, hl⟩
theorem RefAt.lt {w : World} {b mb : Nat} {m : DM} (h : RefAt w b mb m) : b < w.heap.size ∧ mb < w.heap.size := by
  obtain ⟨hne, hwf, l, cap, cur, hb, hm, hs, hl⟩ := h
  exact ⟨hb.lt, hm.lt⟩
theorem RefAt.grown {w w' : World} {b mb : Nat} {m : DM} (h : RefAt w b mb m) (hb : Below w.heap.size w w') : RefAt w' b mb m :=
  h.only (S := fun _ => False) (Only.of_below hb) (fun h => h) (fun h => h)
theorem ref_read (b sb : Nat) (m : DM) (i : Int) (w : World) (h : RefAt w b sb m) :
    Calls Tryz.prog 41 #[.pointer (some ⟨b, 0, none⟩), .int .i64 i] w fun e w' => e = .returned (.tuple #[.string (m.read i).1, .int .i64 (m.read i).2]) ∧ w' = w := by
  obtain ⟨hne, hwf, l, cap, cur, hb, hm, hs1, hs2, hs, hl⟩ := h
  have hlen := hwf.len
  have c0 : w.cell? ⟨b, 0, none⟩ = some (.slice (some ⟨sb, 0, none⟩) m.S.length cap) := hb.cell 0
  have c1 : w.cell? ⟨b, 1, none⟩ = some (.bool m.dead) := hb.cell 1
  obtain ⟨n, hn⟩ : ∃ n, n = m.S.length := ⟨_, rfl⟩
  rw [← hn] at c0 hs hs1 hlen
  have HN := Lib.hid hn
  clear hb hl hwf hn
  cases hd : m.dead
  · rw [hd] at c1
    by_cases h0 : 0 ≤ i
    · by_cases h1 : i < n
      · obtain ⟨j, rfl⟩ := Int.eq_ofNat_of_zero_le h0
        have hjn : j < n := by omega
        have hr : m.read (j : Int) = (m.at j, 0) := by
          unfold DM.read DM.may DM.good
          rw [hd]; simp; rw [← HN.out]; simp [hjn]; exact fun h => absurd h (by omega)
        have cs : w.cell? ⟨sb, j, none⟩ = some (.string (m.at j)) := (hm.cell j).trans (hs j hjn)
        rw [hr]
        have HJ := Lib.hid hjn
        clear hr hd hs hm h0
        go_enter Tryz.func41, Tryz.ntmps41
        go_wp2
        go_ret2
        exact ⟨rfl, rfl⟩
      · have hr : m.read i = (ByteArray.empty, 1) := by
          unfold DM.read DM.may DM.good
          rw [hd]; simp; rw [← HN.out]; simp [h1]
        rw [hr]
        clear hr hd hs hm
        go_enter Tryz.func41, Tryz.ntmps41
        go_wp2
        go_ret2
        exact ⟨rfl, rfl⟩
    · have hr : m.read i = (ByteArray.empty, 1) := by
        unfold DM.read DM.may DM.good
        rw [hd]; simp [h0]
      rw [hr]
      clear hr hd hs hm
      go_enter Tryz.func41, Tryz.ntmps41
      go_wp2
      go_ret2
      exact ⟨rfl, rfl⟩
  · rw [hd] at c1
    have hr : m.read i = (ByteArray.empty, 74) := by
      unfold DM.read DM.may DM.good
      rw [hd]; simp
    rw [hr]
    clear hr hd hs hm
    go_enter Tryz.func41, Tryz.ntmps41
    go_wp2
    go_ret2
    exact ⟨rfl, rfl⟩
theorem ref_start (b sb : Nat) (m : DM) (w : World) (h : RefAt w b sb m) :
    Calls Tryz.prog 18 #[.pointer (some ⟨b, 0, none⟩)] w fun e w' => e = .returned (.tuple #[]) ∧ RefAt w' b sb m.start ∧ Only (own2 b sb) w w' := by
  obtain ⟨hne, hwf, l, cap, cur, hb, hm, hs⟩ := h
  have c1 : w.cell? ⟨b, 1, none⟩ = some (.bool m.dead) := hb.cell 1
  have c2 : w.cell? ⟨b, 2, none⟩ = some (.bool m.armed) := hb.cell 2
  have f1 := hb.free 1
  have f2 := hb.free 2
  have hb' : Blk ((w.setCell ⟨b, 1, none⟩ (.bool false)).setCell ⟨b, 2, none⟩ (.bool false)) b (refRow sb cap l m.start) 52 := (hb.setCell 1 (.bool false)).setCell 2 (.bool false)
  have ho : Only (own2 b sb) w ((w.setCell ⟨b, 1, none⟩ (.bool false)).setCell ⟨b, 2, none⟩ (.bool false)) := ((Only.refl _ _).setCell (fun _ => .inl rfl) _).setCell (fun _ => .inl rfl) _
  have hm' := (hm.setCell_other (a := ⟨b, 1, none⟩) (Ne.symm hne) (.bool false)).setCell_other (a := ⟨b, 2, none⟩) (Ne.symm hne) (.bool false)
  have HB := Lib.hid hb'
  have HO := Lib.hid ho
  have HM := Lib.hid hm'
  clear hb hb' ho hm hm'
  go_enter Tryz.func18, Tryz.ntmps18
  go_wp2
  go_end0
  exact ⟨rfl, ⟨hne, DM.start_wf hwf, l, cap, cur, HB.out, HM.out, hs.1, hs.2.1, hs.2.2.1, fun h => by cases h⟩, HO.out⟩
set_option maxHeartbeats 400000 in
theorem ref_arm (b sb : Nat) (m : DM) (n p : Int) (w : World) (h : RefAt w b sb m) :
    Calls Tryz.prog 16 #[.pointer (some ⟨b, 0, none⟩), .int .i64 n, .int .i64 p] w fun e w' => e = .returned (.int .i64 (m.arm n p).2) ∧ RefAt w' b sb (m.arm n p).1 ∧ Only (own2 b sb) w w' := by
  by_cases ha : DM.arms n p = true
  · have hx : 0 ≤ n ∧ n ≤ 100000 ∧ 0 ≤ p ∧ p ≤ 256 := by simpa [DM.arms] using ha
    obtain ⟨hx1, hx2, hx3, hx4⟩ := hx
    obtain ⟨q, rfl⟩ := Int.eq_ofNat_of_zero_le hx3
    have hwf' := DM.arm_wf h.wf n (q : Int)
    obtain ⟨hne, hwf, l, cap, cur, hb, hm, hs1, hs2, hs, hl⟩ := h
    have c2 : w.cell? ⟨b, 2, none⟩ = some (.bool m.armed) := hb.cell 2
    have c3 : w.cell? ⟨b, 3, none⟩ = some (.int .i64 l) := hb.cell 3
    have c4 : w.cell? ⟨b, 4, none⟩ = some (.int .i64 (m.part : Int)) := hb.cell 4
    have f2 := hb.free 2
    have f3 := hb.free 3
    have f4 := hb.free 4
    have hr : m.arm n (q : Int) = ({ m with armed := true, left := n, part := q }, 0) := by unfold DM.arm; rw [if_pos ha]; rfl
    rw [hr] at hwf'
    have HR := Lib.hid hr
    have hb' := ((hb.setCell 2 (.bool true)).setCell 3 (.int .i64 n)).setCell 4 (.int .i64 (q : Int))
    have ho : Only (own2 b sb) w (((w.setCell ⟨b, 2, none⟩ (.bool true)).setCell ⟨b, 3, none⟩ (.int .i64 n)).setCell ⟨b, 4, none⟩ (.int .i64 (q : Int))) :=
      (((Only.refl _ _).setCell (fun _ => .inl rfl) _).setCell (fun _ => .inl rfl) _).setCell (fun _ => .inl rfl) _
    have hm' := ((hm.setCell_other (a := ⟨b, 2, none⟩) (Ne.symm hne) (.bool true)).setCell_other (a := ⟨b, 3, none⟩) (Ne.symm hne) (.int .i64 n)).setCell_other (a := ⟨b, 4, none⟩) (Ne.symm hne) (.int .i64 (q : Int))
    have HB := Lib.hid hb'
    have HO := Lib.hid ho
    have HM := Lib.hid hm'
    clear hb hb' ho hm hm' hr ha
    go_enter Tryz.func16, Tryz.ntmps16
    go_wp2
    go_ret
    exact ⟨by rw [HR.out]; rfl, by rw [HR.out]; exact ⟨hne, hwf', n, cap, cur, HB.out, HM.out, hs1, hs2, hs, fun _ => rfl⟩, HO.out⟩
  · have hr : m.arm n p = (m, 1) := by unfold DM.arm; rw [if_neg ha]
    rw [hr]
    have hx : ¬ (0 ≤ n ∧ n ≤ 100000 ∧ 0 ≤ p ∧ p ≤ 256) := by simpa [DM.arms] using ha
    clear hr ha
    by_cases h1 : n < 0
    · clear hx
      go_enter Tryz.func16, Tryz.ntmps16
      go_wp2
      go_ret
      exact ⟨rfl, h, Only.refl _ _⟩
    · by_cases h2 : 100000 < n
      · clear hx
        go_enter Tryz.func16, Tryz.ntmps16
        go_wp2
        go_ret
        exact ⟨rfl, h, Only.refl _ _⟩
      · by_cases h3 : p < 0
        · clear hx
          go_enter Tryz.func16, Tryz.ntmps16
          go_wp2
          go_ret
          exact ⟨rfl, h, Only.refl _ _⟩
        · have h4 : 256 < p := by omega
          clear hx
          go_enter Tryz.func16, Tryz.ntmps16
          go_wp2
          go_ret
          exact ⟨rfl, h, Only.refl _ _⟩
end Go.Proofs.YtcakellhellddaaGreatDoor
namespace Go.Proofs.YtcakellhellddaaGreatDoor
open Go.RowKit
theorem ref_write_refused (b sb : Nat) (m : DM) (i : Int) (s : ByteArray) (w : World) (h : RefAt w b sb m) (hz : m.may i ≠ 0 ∨ s.size ≠ 256) :
    Calls Tryz.prog 23 #[.pointer (some ⟨b, 0, none⟩), .int .i64 i, .string s] w fun e w' => e = .returned (.int .i64 (m.write i s).2) ∧ (m.write i s).1 = m ∧ w' = w := by
  obtain ⟨hne, hwf, l, cap, cur, hb, hm, hs1, hs2, hs, hl⟩ := h
  have hlen := hwf.len
  have c0 : w.cell? ⟨b, 0, none⟩ = some (.slice (some ⟨sb, 0, none⟩) m.S.length cap) := hb.cell 0
  have c1 : w.cell? ⟨b, 1, none⟩ = some (.bool m.dead) := hb.cell 1
  have hw : m.write i s = (m, if m.may i ≠ 0 then m.may i else 1) := by
    unfold DM.write
    by_cases h1 : m.may i = 0
    · have h2 : s.size ≠ 256 := by rcases hz with h | h; exact absurd h1 h; exact h
      simp [h1, h2]
    · simp [h1]
  rw [hw]
  have hmay : m.may i = if m.dead then 74 else if decide (0 ≤ i ∧ i < m.S.length) then 0 else 1 := rfl
  clear hw hb hm hs hl hwf
  obtain ⟨n, hn⟩ : ∃ n, n = m.S.length := ⟨_, rfl⟩
  rw [← hn] at c0 hmay hs1 hlen
  clear hn
  cases hd : m.dead
  · rw [hd] at c1 hmay
    simp only [Bool.false_eq_true, if_false] at hmay
    clear hd
    by_cases h0 : 0 ≤ i
    · by_cases h1 : i < n
      · have hm0 : m.may i = 0 := by rw [hmay]; simp [h0, h1]
        rw [hm0]
        have h2 : ((s.size : Int) != 256) = true := by
          have : s.size ≠ 256 := by rcases hz with h | h; exact absurd hm0 h; exact h
          simpa using (by omega : ¬ ((s.size : Int) = 256))
        clear hmay hm0 hz
        go_enter Tryz.func23, Tryz.ntmps23
        go_wp2
        go_ret
        exact ⟨rfl, rfl⟩
      · have hm0 : m.may i = 1 := by rw [hmay]; simp [h1]
        rw [hm0]
        clear hmay hm0 hz
        go_enter Tryz.func23, Tryz.ntmps23
        go_wp2
        go_ret
        exact ⟨rfl, rfl⟩
    · have hm0 : m.may i = 1 := by rw [hmay]; simp [h0]
      rw [hm0]
      clear hmay hm0 hz
      go_enter Tryz.func23, Tryz.ntmps23
      go_wp2
      go_ret
      exact ⟨rfl, rfl⟩
  · rw [hd] at c1 hmay
    rw [if_pos rfl] at hmay
    rw [hmay]
    clear hmay hd hz
    go_enter Tryz.func23, Tryz.ntmps23
    go_wp2
    go_ret
    exact ⟨rfl, rfl⟩
set_option maxHeartbeats 1000000 in
theorem ref_write_goes (b sb : Nat) (m : DM) (i : Nat) (s : ByteArray) (w : World) (h : RefAt w b sb m) (hz : m.may i = 0) (hs : s.size = 256) (hc : m.cuts = false) :
    Calls Tryz.prog 23 #[.pointer (some ⟨b, 0, none⟩), .int .i64 i, .string s] w fun e w' => e = .returned (.int .i64 (m.write i s).2) ∧ RefAt w' b sb (m.write i s).1 ∧ Only (own2 b sb) w w' := by
  have hwf' := DM.write_wf h.wf i s
  have HR : Hid (m.write i s = ({ m with S := m.S.set i s, left := m.left - 1, writes := wrap64 (m.writes + 1) }, 0)) := by
    refine Lib.hid ?_; unfold DM.write; rw [if_neg (by simpa using hz), if_neg (by simpa using hs), hc]; rfl
  obtain ⟨hdd, _, hi⟩ := DM.good_of_may hz
  have hi2 : i < m.S.length := by omega
  rw [HR.out] at hwf' ⊢
  obtain ⟨hne, hwf, l, cap, cur, hb, hm, hs1, hs2, hse, hl⟩ := h
  have hlen := hwf.len
  have hb0 : ((s.size : Int) != 256) = false := by rw [hs]; rfl
  have c0 : w.cell? ⟨b, 0, none⟩ = some (.slice (some ⟨sb, 0, none⟩) m.S.length cap) := hb.cell 0
  have c1 : w.cell? ⟨b, 1, none⟩ = some (.bool false) := (hb.cell 1).trans (by rw [← hdd]; rfl)
  have c2 : w.cell? ⟨b, 2, none⟩ = some (.bool m.armed) := hb.cell 2
  have c3 : w.cell? ⟨b, 3, none⟩ = some (.int .i64 l) := hb.cell 3
  have c5 : w.cell? ⟨b, 5, none⟩ = some (.int .i64 m.writes) := hb.cell 5
  have f3 := hb.free 3
  have f5 := hb.free 5
  have ci : w.cell? ⟨sb, i, none⟩ = some (.string (m.at i)) := (hm.cell i).trans (hse i hi2)
  have fi := hm.free i
  have hbd := hwf.left
  -- the end, by whether it is armed
  have fin : ∀ l', (m.armed = true → l' = m.left - 1) → ∀ w1, Blk w1 b (refRow sb cap l' m) 52 → Blk w1 sb cur 9 → Only (own2 b sb) w w1 →
      RefAt ((w1.setCell ⟨sb, i, none⟩ (.string s)).setCell ⟨b, 5, none⟩ (.int .i64 (wrap64 (m.writes + 1)))) b sb { m with S := m.S.set i s, left := m.left - 1, writes := wrap64 (m.writes + 1) } ∧ Only (own2 b sb) w ((w1.setCell ⟨sb, i, none⟩ (.string s)).setCell ⟨b, 5, none⟩ (.int .i64 (wrap64 (m.writes + 1)))) := by
    intro l' hl' w1 hb1 hm1 ho1
    have hb2 := (hb1.setCell_other (a := ⟨sb, i, none⟩) hne (.string s)).setCell 5 (.int .i64 (wrap64 (m.writes + 1)))
    have hm2 := (hm1.setCell i (.string s)).setCell_other (a := ⟨b, 5, none⟩) (Ne.symm hne) (.int .i64 (wrap64 (m.writes + 1)))
    refine ⟨⟨hne, hwf', l', cap, _, ?_, hm2, ?_, hs2, ?_, hl'⟩, (ho1.setCell (fun _ => .inr rfl) _).setCell (fun _ => .inl rfl) _⟩
    · have e : (refRow sb cap l' m).setIfInBounds 5 (.int .i64 (wrap64 (m.writes + 1))) = refRow sb cap l' { m with S := m.S.set i s, left := m.left - 1, writes := wrap64 (m.writes + 1) } := by
        simp [refRow]
      rw [← e]; exact hb2
    · simpa using hs1
    · intro j hj
      have hj' : j < m.S.length := by simpa using hj
      by_cases hji : j = i
      · subst hji
        have hjc : j < cur.size := (Array.getElem?_eq_some_iff.1 (hse j hj')).1
        simp [DM.at, hj', hjc]
      · have e1 : DM.at { m with S := m.S.set i s, left := m.left - 1, writes := wrap64 (m.writes + 1) } j = m.at j := DM.at_ne rfl hji
        rw [e1, Array.getElem?_setIfInBounds_ne (Ne.symm hji)]
        exact hse j hj'
  have FIN := Lib.hid fin
  have hin : (i : Int) < m.S.length := hi
  obtain ⟨n, hn⟩ : ∃ n, n = m.S.length := ⟨_, rfl⟩
  rw [← hn] at c0 hin hs1 hlen hi2
  clear hn
  obtain ha | ha : m.armed = false ∨ m.armed = true := by cases m.armed <;> simp
  · rw [ha] at c2
    have E := FIN.out l (fun h => by rw [ha] at h; cases h) w hb hm (Only.refl _ _)
    have HE := Lib.hid E
    clear E FIN fin ha hi hz hs hc hl hb hm hse hwf hwf' hbd HR
    go_enter Tryz.func23, Tryz.ntmps23
    go_wp2
    go_ret
    exact ⟨rfl, HE.out⟩
  · rw [ha] at c2
    have hl0 : (l == 0) = false := by
      have := hl ha
      unfold DM.cuts at hc
      rw [ha] at hc
      simp at hc
      rw [this]; simpa using hc
    have h1 := hl ha
    have h2 := hbd ha
    have hw1 : wrap64 (l - 1) = m.left - 1 := by rw [h1]; exact IntWalk.wrap64_in _ (by omega)
    have hb1 := hb.setCell 3 (.int .i64 (wrap64 (l - 1)))
    have e : (refRow sb cap l m).setIfInBounds 3 (.int .i64 (wrap64 (l - 1))) = refRow sb cap (wrap64 (l - 1)) m := by simp [refRow]
    rw [e] at hb1
    have hm1 := hm.setCell_other (a := ⟨b, 3, none⟩) (Ne.symm hne) (.int .i64 (wrap64 (l - 1)))
    have E := FIN.out (wrap64 (l - 1)) (fun _ => hw1) _ hb1 hm1 ((Only.refl _ _).setCell (fun _ => .inl rfl) _)
    have HE := Lib.hid E
    clear E FIN fin ha hi hz hs hc hl hb hm hse hwf hwf' hbd HR h1 h2 hw1 hb1 hm1 e
    go_enter Tryz.func23, Tryz.ntmps23
    go_wp2
    go_ret
    exact ⟨rfl, HE.out⟩
set_option maxHeartbeats 2000000 in
set_option maxRecDepth 100000 in
theorem ref_write_cut (b sb : Nat) (m : DM) (i : Nat) (s : ByteArray) (w : World) (h : RefAt w b sb m) (hz : m.may i = 0) (hs : s.size = 256) (hc : m.cuts = true) :
    Calls Tryz.prog 23 #[.pointer (some ⟨b, 0, none⟩), .int .i64 i, .string s] w fun e w' => e = .returned (.int .i64 (m.write i s).2) ∧ RefAt w' b sb (m.write i s).1 ∧ Only (own2 b sb) w w' := by
  have hwf' := DM.write_wf h.wf i s
  have HR : Hid (m.write i s = ({ m with S := m.S.set i (torn m.part s (m.at i)), dead := true, armed := false }, 74)) := by
    refine Lib.hid ?_; unfold DM.write; rw [if_neg (by simpa using hz), if_neg (by simpa using hs), hc]; rfl
  obtain ⟨hdd, _, hi⟩ := DM.good_of_may hz
  have hi2 : i < m.S.length := by omega
  rw [HR.out] at hwf' ⊢
  obtain ⟨hne, hwf, l, cap, cur, hb, hm, hs1, hs2, hse, hl⟩ := h
  have hlen := hwf.len
  have hat := DM.at_size hwf hi2
  have hpart := hwf.part
  have hb0 : ((s.size : Int) != 256) = false := by rw [hs]; rfl
  have hl0 : l = 0 := by
    unfold DM.cuts at hc
    simp at hc
    rw [hl hc.1, hc.2]
  subst hl0
  have ha : m.armed = true := by unfold DM.cuts at hc; simp at hc; exact hc.1
  have c0 : w.cell? ⟨b, 0, none⟩ = some (.slice (some ⟨sb, 0, none⟩) m.S.length cap) := hb.cell 0
  have c1 : w.cell? ⟨b, 1, none⟩ = some (.bool false) := (hb.cell 1).trans (by rw [← hdd]; rfl)
  have c2 : w.cell? ⟨b, 2, none⟩ = some (.bool true) := (hb.cell 2).trans (by rw [← ha]; rfl)
  have c3 : w.cell? ⟨b, 3, none⟩ = some (.int .i64 0) := hb.cell 3
  have c4 : w.cell? ⟨b, 4, none⟩ = some (.int .i64 (m.part : Int)) := hb.cell 4
  have f1 := hb.free 1
  have f2 := hb.free 2
  have ci : w.cell? ⟨sb, i, none⟩ = some (.string (m.at i)) := (hm.cell i).trans (hse i hi2)
  have fi := hm.free i
  obtain ⟨t, ht⟩ : ∃ t, t = torn m.part s (m.at i) := ⟨_, rfl⟩
  have fin : ∀ w1, Blk w1 b (refRow sb cap 0 m) 52 → Blk w1 sb cur 9 → Only (own2 b sb) w w1 →
      RefAt (((w1.setCell ⟨sb, i, none⟩ (.string t)).setCell ⟨b, 1, none⟩ (.bool true)).setCell ⟨b, 2, none⟩ (.bool false)) b sb { m with S := m.S.set i (torn m.part s (m.at i)), dead := true, armed := false } ∧
      Only (own2 b sb) w (((w1.setCell ⟨sb, i, none⟩ (.string t)).setCell ⟨b, 1, none⟩ (.bool true)).setCell ⟨b, 2, none⟩ (.bool false)) := by
    intro w1 hb0 hm0 ho0
    have hb1 := ((hb0.setCell_other (a := ⟨sb, i, none⟩) hne (.string t)).setCell 1 (.bool true)).setCell 2 (.bool false)
    have hm1 := ((hm0.setCell i (.string t)).setCell_other (a := ⟨b, 1, none⟩) (Ne.symm hne) (.bool true)).setCell_other (a := ⟨b, 2, none⟩) (Ne.symm hne) (.bool false)
    rw [← ht]
    rw [← ht] at hwf'
    refine ⟨⟨hne, hwf', 0, cap, _, ?_, hm1, ?_, hs2, ?_, fun h => by cases h⟩, ((ho0.setCell (fun _ => .inr rfl) _).setCell (fun _ => .inl rfl) _).setCell (fun _ => .inl rfl) _⟩
    · have e : ((refRow sb cap 0 m).setIfInBounds 1 (.bool true)).setIfInBounds 2 (.bool false) = refRow sb cap 0 { m with S := m.S.set i t, dead := true, armed := false } := by
        simp [refRow]
      rw [← e]; exact hb1
    · simpa using hs1
    · intro j hj
      have hj' : j < m.S.length := by simpa using hj
      by_cases hji : j = i
      · subst hji
        have hjc : j < cur.size := (Array.getElem?_eq_some_iff.1 (hse j hj')).1
        simp [DM.at, hj', hjc]
      · have e1 : DM.at { m with S := m.S.set i t, dead := true, armed := false } j = m.at j := DM.at_ne rfl hji
        rw [e1, Array.getElem?_setIfInBounds_ne (Ne.symm hji)]
        exact hse j hj'
  have e0 := fin w hb hm (Only.refl _ _)
  rw [ht] at e0
  unfold torn at e0
  have FIN := Lib.hid e0
  clear e0 fin
  unfold torn
  have hin : (i : Int) < m.S.length := hi
  have hp1 : m.part ≤ s.size := by omega
  have hp2 : m.part ≤ (m.at i).size := by omega
  have hp3 : ¬ 9223372036854775807 < s.size := by omega
  have hp4 : ¬ 9223372036854775807 < (m.at i).size := by omega
  clear hat
  generalize m.at i = u at *
  generalize m.part = p at *
  obtain ⟨n, hn⟩ : ∃ n, n = m.S.length := ⟨_, rfl⟩
  rw [← hn] at c0 hin hs1 hlen hi2
  clear hn
  clear hi hz hs hc hl hse hwf hwf' HR ht hdd ha hb hm
  go_enter Tryz.func23, Tryz.ntmps23
  go_wp2_with fail
  refine wp_region_held_drew (S := fun w1 => w1.cell? ⟨b, 0, none⟩ = some (.slice (some ⟨sb, 0, none⟩) n cap) ∧ w1.cell? ⟨b, 4, none⟩ = some (.int .i64 (p : Int))) (by kernel_rfl) ?_ (fun hHeld => ?_)
  · exact ⟨c0, c4⟩
  refine take_op 0 (some 38) (v := ?_) rfl rfl (by kernel_rfl) (by kernel_rfl) (by kernel_rfl) (fun _ _ _ h => h) (Or.inl ⟨by rfl, ?_⟩) (by assumption) ?_
  rotate_left
  · intro w_ hSw_; (try dsimp only at hSw_); go_simp; (try with_reducible rfl)
  try simp only [Act.put, List.setIfInBounds_toArray, List.set_cons_zero, List.set_cons_succ]
  refine take_op 1 (some 39) (v := ?_) rfl rfl (by kernel_rfl) (by kernel_rfl) (by kernel_rfl) (fun _ _ _ h => h) (Or.inl ⟨by rfl, ?_⟩) (by assumption) ?_
  rotate_left
  · intro w_ hSw_; (try dsimp only at hSw_); go_simp; (try with_reducible rfl)
  try simp only [Act.put, List.setIfInBounds_toArray, List.set_cons_zero, List.set_cons_succ]
  refine take_op 2 (some 40) (v := ?_) rfl rfl (by kernel_rfl) (by kernel_rfl) (by kernel_rfl) (fun _ _ _ h => h) (Or.inl ⟨by rfl, ?_⟩) (by assumption) ?_
  rotate_left
  · intro w_ hSw_; (try dsimp only at hSw_); go_simp; (try with_reducible rfl)
  try simp only [Act.put, List.setIfInBounds_toArray, List.set_cons_zero, List.set_cons_succ]
  refine take_op 3 (some 41) (v := ?_) rfl rfl (by kernel_rfl) (by kernel_rfl) (by kernel_rfl) (fun _ _ _ h => h) (Or.inl ⟨by rfl, ?_⟩) (by assumption) ?_
  rotate_left
  · intro w_ hSw_; (try dsimp only at hSw_); go_simp; (try with_reducible rfl)
  try simp only [Act.put, List.setIfInBounds_toArray, List.set_cons_zero, List.set_cons_succ]
  refine take_op 4 (some 42) (v := ?_) rfl rfl (by kernel_rfl) (by kernel_rfl) (by kernel_rfl) (fun _ _ _ h => h) (Or.inl ⟨by rfl, ?_⟩) (by assumption) ?_
  rotate_left
  · intro w_ hSw_; (try dsimp only at hSw_); go_simp; (try with_reducible rfl)
  try simp only [Act.put, List.setIfInBounds_toArray, List.set_cons_zero, List.set_cons_succ]
  refine take_op 5 (some 43) (v := ?_) rfl rfl (by kernel_rfl) (by kernel_rfl) (by kernel_rfl) (fun _ _ _ h => h) (Or.inl ⟨by rfl, ?_⟩) (by assumption) ?_
  rotate_left
  · intro w_ hSw_; (try dsimp only at hSw_); go_simp; (try with_reducible rfl)
  try simp only [Act.put, List.setIfInBounds_toArray, List.set_cons_zero, List.set_cons_succ]
  refine take_op 6 (some 44) (v := ?_) rfl rfl (by kernel_rfl) (by kernel_rfl) (by kernel_rfl) (fun _ _ _ h => h) (Or.inl ⟨by rfl, ?_⟩) (by assumption) ?_
  rotate_left
  · intro w_ hSw_; (try dsimp only at hSw_); go_simp; (try with_reducible rfl)
  try simp only [Act.put, List.setIfInBounds_toArray, List.set_cons_zero, List.set_cons_succ]
  refine take_op 7 (some 45) (v := ?_) rfl rfl (by kernel_rfl) (by kernel_rfl) (by kernel_rfl) (fun _ _ _ h => h) (Or.inl ⟨by rfl, ?_⟩) (by assumption) ?_
  rotate_left
  · intro w_ hSw_; (try dsimp only at hSw_); go_simp; (try with_reducible rfl)
  try simp only [Act.put, List.setIfInBounds_toArray, List.set_cons_zero, List.set_cons_succ]
  refine take_op 8 (some 46) (v := ?_) rfl rfl (by kernel_rfl) (by kernel_rfl) (by kernel_rfl) (fun _ _ _ h => h) (Or.inl ⟨by rfl, ?_⟩) (by assumption) ?_
  rotate_left
  · intro w_ hSw_; (try dsimp only at hSw_); go_simp; (try with_reducible rfl)
  try simp only [Act.put, List.setIfInBounds_toArray, List.set_cons_zero, List.set_cons_succ]
  refine take_op 9 (some 47) (v := ?_) rfl rfl (by kernel_rfl) (by kernel_rfl) (by kernel_rfl) (fun _ _ _ h => h) (Or.inl ⟨by rfl, ?_⟩) (by assumption) ?_
  rotate_left
  · intro w_ hSw_; (try dsimp only at hSw_); go_simp; (try with_reducible rfl)
  try simp only [Act.put, List.setIfInBounds_toArray, List.set_cons_zero, List.set_cons_succ]
  refine take_op 10 (some 48) (v := ?_) rfl rfl (by kernel_rfl) (by kernel_rfl) (by kernel_rfl) (fun _ _ _ h => h) (Or.inl ⟨by rfl, ?_⟩) (by assumption) ?_
  rotate_left
  · intro w_ hSw_; (try dsimp only at hSw_); go_simp; (try with_reducible rfl)
  try simp only [Act.put, List.setIfInBounds_toArray, List.set_cons_zero, List.set_cons_succ]
  refine take_op 11 (some 49) (v := ?_) rfl rfl (by kernel_rfl) (by kernel_rfl) (by kernel_rfl) (fun _ _ _ h => h) (Or.inl ⟨by rfl, ?_⟩) (by assumption) ?_
  rotate_left
  · intro w_ hSw_; (try dsimp only at hSw_); go_simp; (try with_reducible rfl)
  try simp only [Act.put, List.setIfInBounds_toArray, List.set_cons_zero, List.set_cons_succ]
  refine take_op 12 (some 50) (v := ?_) rfl rfl (by kernel_rfl) (by kernel_rfl) (by kernel_rfl) (fun _ _ _ h => h) (Or.inl ⟨by rfl, ?_⟩) (by assumption) ?_
  rotate_left
  · intro w_ hSw_; (try dsimp only at hSw_); go_simp; (try with_reducible rfl)
  try simp only [Act.put, List.setIfInBounds_toArray, List.set_cons_zero, List.set_cons_succ]
  refine take_op 13 (some 51) (v := ?_) rfl rfl (by kernel_rfl) (by kernel_rfl) (by kernel_rfl) (fun _ _ _ h => h) (Or.inl ⟨by rfl, ?_⟩) (by assumption) ?_
  rotate_left
  · intro w_ hSw_; (try dsimp only at hSw_); go_simp; (try with_reducible rfl)
  try simp only [Act.put, List.setIfInBounds_toArray, List.set_cons_zero, List.set_cons_succ]
  refine take_op 14 (some 52) (v := ?_) rfl rfl (by kernel_rfl) (by kernel_rfl) (by kernel_rfl) (fun _ _ _ h => h) (Or.inl ⟨by rfl, ?_⟩) (by assumption) ?_
  rotate_left
  · intro w_ hSw_; (try dsimp only at hSw_); go_simp; (try with_reducible rfl)
  try simp only [Act.put, List.setIfInBounds_toArray, List.set_cons_zero, List.set_cons_succ]
  refine take_op 15 (some 53) (v := ?_) rfl rfl (by kernel_rfl) (by kernel_rfl) (by kernel_rfl) (fun _ _ _ h => h) (Or.inl ⟨by rfl, ?_⟩) (by assumption) ?_
  rotate_left
  · intro w_ hSw_; (try dsimp only at hSw_); go_simp; (try with_reducible rfl)
  try simp only [Act.put, List.setIfInBounds_toArray, List.set_cons_zero, List.set_cons_succ]
  refine take_op 16 (some 54) (v := ?_) rfl rfl (by kernel_rfl) (by kernel_rfl) (by kernel_rfl) (fun _ _ _ h => h) (Or.inl ⟨by rfl, ?_⟩) (by assumption) ?_
  rotate_left
  · intro w_ hSw_; (try dsimp only at hSw_); go_simp; (try with_reducible rfl)
  try simp only [Act.put, List.setIfInBounds_toArray, List.set_cons_zero, List.set_cons_succ]
  refine take_op 18 (some 56) (v := ?_) rfl rfl (by kernel_rfl) (by kernel_rfl) (by kernel_rfl) (fun _ _ _ h => h) (Or.inl ⟨by rfl, ?_⟩) (by assumption) ?_
  rotate_left
  · intro w_ hSw_; (try dsimp only at hSw_); go_simp; (try with_reducible rfl)
  try simp only [Act.put, List.setIfInBounds_toArray, List.set_cons_zero, List.set_cons_succ]
  refine take_op 19 (some 57) (v := ?_) rfl rfl (by kernel_rfl) (by kernel_rfl) (by kernel_rfl) (fun _ _ _ h => h) (Or.inl ⟨by rfl, ?_⟩) (by assumption) ?_
  rotate_left
  · intro w_ hSw_; (try dsimp only at hSw_); go_simp; (try with_reducible rfl)
  try simp only [Act.put, List.setIfInBounds_toArray, List.set_cons_zero, List.set_cons_succ]
  refine take_op 20 (some 58) (v := ?_) rfl rfl (by kernel_rfl) (by kernel_rfl) (by kernel_rfl) (fun _ _ _ h => h) (Or.inl ⟨by rfl, ?_⟩) (by assumption) ?_
  rotate_left
  · intro w_ hSw_; (try dsimp only at hSw_); go_simp; (try with_reducible rfl)
  try simp only [Act.put, List.setIfInBounds_toArray, List.set_cons_zero, List.set_cons_succ]
  refine take_op 21 (some 59) (v := ?_) rfl rfl (by kernel_rfl) (by kernel_rfl) (by kernel_rfl) (fun _ _ _ h => h) (Or.inl ⟨by rfl, ?_⟩) (by assumption) ?_
  rotate_left
  · intro w_ hSw_; (try dsimp only at hSw_); go_simp; (try with_reducible rfl)
  try simp only [Act.put, List.setIfInBounds_toArray, List.set_cons_zero, List.set_cons_succ]
  refine go_op 17 rfl (by kernel_rfl) (fun K_ hK_ => ?_)
  go_simp
  refine hK_.out _ _ ?_ (fun hHeld_ => ?_)
  · exact ⟨c0, c4⟩
  refine take_op 22 (some 60) (v := ?_) rfl rfl (by kernel_rfl) (by kernel_rfl) (by kernel_rfl) (fun _ _ _ h => h) (Or.inl ⟨by rfl, ?_⟩) (by assumption) ?_
  rotate_left
  · intro w_ hSw_; (try dsimp only at hSw_); go_simp; (try with_reducible rfl)
  try simp only [Act.put, List.setIfInBounds_toArray, List.set_cons_zero, List.set_cons_succ]
  refine take_op 23 (some 61) (v := ?_) rfl rfl (by kernel_rfl) (by kernel_rfl) (by kernel_rfl) (fun _ _ _ h => h) (Or.inl ⟨by rfl, ?_⟩) (by assumption) ?_
  rotate_left
  · intro w_ hSw_; (try dsimp only at hSw_); go_simp; (try with_reducible rfl)
  try simp only [Act.put, List.setIfInBounds_toArray, List.set_cons_zero, List.set_cons_succ]
  refine take_op 24 (some 62) (v := ?_) rfl rfl (by kernel_rfl) (by kernel_rfl) (by kernel_rfl) (fun _ _ _ h => h) (Or.inl ⟨by rfl, ?_⟩) (by assumption) ?_
  rotate_left
  · intro w_ hSw_; (try dsimp only at hSw_); go_simp; (try with_reducible rfl)
  try simp only [Act.put, List.setIfInBounds_toArray, List.set_cons_zero, List.set_cons_succ]
  refine go_op 25 rfl (by kernel_rfl) (fun K_ hK_ => ?_)
  go_simp
  refine hK_.out _ _ ?_ (fun hHeld_ => ?_)
  · go_simp
  refine wpAnyH_done (by kernel_rfl) ?_ _
  go_wp2
  go_ret
  exact ⟨rfl, ⟨FIN.out.1.ne, FIN.out.1.wf, FIN.out.1.at_⟩, FIN.out.2.drew⟩
theorem ref_write (b sb : Nat) (m : DM) (i : Int) (s : ByteArray) (w : World) (h : RefAt w b sb m) :
    Calls Tryz.prog 23 #[.pointer (some ⟨b, 0, none⟩), .int .i64 i, .string s] w fun e w' => e = .returned (.int .i64 (m.write i s).2) ∧ RefAt w' b sb (m.write i s).1 ∧ Only (own2 b sb) w w' := by
  by_cases hz : m.may i = 0
  · by_cases h2 : s.size = 256
    · obtain ⟨_, h0, _⟩ := DM.good_of_may hz
      obtain ⟨j, rfl⟩ := Int.eq_ofNat_of_zero_le h0
      cases hc : m.cuts
      · exact ref_write_goes b sb m j s w h hz h2 hc
      · exact ref_write_cut b sb m j s w h hz h2 hc
    · refine (ref_write_refused b sb m i s w h (.inr h2)).mono ?_
      rintro e w' ⟨he, h1, rfl⟩
      exact ⟨he, by rw [h1]; exact h, Only.refl _ _⟩
  · refine (ref_write_refused b sb m i s w h (.inl hz)).mono ?_
    rintro e w' ⟨he, h1, rfl⟩
    exact ⟨he, by rw [h1]; exact h, Only.refl _ _⟩
end Go.Proofs.YtcakellhellddaaGreatDoor
namespace Go.Proofs.YtcakellhellddaaGreatDoor
open Go.RowKit
theorem ref_new_bad (n : Int) (hn : n < 1 ∨ 4096 < n) (w : World) :
    Calls Tryz.prog 7 #[.int .i64 n] w fun e w' => e = .returned (.tuple #[.pointer none, .int .i64 1]) ∧ w' = w := by
  rcases hn with hn | hn
  · go_enter Tryz.func7, Tryz.ntmps7
    go_wp2
    go_ret2
    exact ⟨rfl, rfl⟩
  · go_enter Tryz.func7, Tryz.ntmps7
    go_wp2
    go_ret2
    exact ⟨rfl, rfl⟩
/-- The row of a disk under way: its slice v, k sectors. -/
structure NewAt (w : World) (b : Nat) (v : Value) (k : Nat) : Prop where
  blk : Blk w b #[v, .bool false, .bool false, .int .i64 0, .int .i64 0, .int .i64 0] 52
  row : w.ownsRow (b + 1) 9 1 v k (List.replicate k (.string zs))
set_option maxRecDepth 100000 in
set_option maxHeartbeats 1000000 in
theorem ref_new (n : Nat) (h1 : 1 ≤ n) (h2 : n ≤ 4096) (w : World) :
    Calls Tryz.prog 7 #[.int .i64 n] w fun e w' => ∃ b sb, e = .returned (.tuple #[.pointer (some ⟨b, 0, none⟩), .int .i64 0]) ∧ RefAt w' b sb (dNew n) ∧ Below w.heap.size w w' ∧ w.heap.size ≤ b ∧ w.heap.size ≤ sb := by
  go_enter Tryz.func7, Tryz.ntmps7
  go_wp2_with fail
  go_loopw [5] (fun v wr => ∃ (k : Nat) (sv : Value), k ≤ n ∧ v = .int .i64 k ∧ NewAt wr w.heap.size sv k ∧ Below w.heap.size w wr) (fun v _ => n - (intOf v).toNat)
  case atStart =>
    refine ⟨0, .slice none 0 0, Nat.zero_le _, rfl, ⟨?_, ?_⟩, (Below.refl _ _).alloc (Nat.le_refl _) _⟩
    · exact Blk.new _ _ _
    · exact ⟨rfl, .inl ⟨rfl, rfl⟩⟩
  case round =>
    obtain ⟨k, sv, hk, rfl, hN, hB⟩ := hrel
    have c0 : wr.cell? ⟨w.heap.size, 0, none⟩ = some sv := hN.blk.cell 0
    have f0 := hN.blk.free 0
    have HN := Lib.hid hN
    have HB := Lib.hid hB
    clear hN hB
    by_cases hlt : k < n
    · go_wp2_with fail
      refine wp_region_gate (fun w1 => w1.cell? ⟨w.heap.size, 0, none⟩ = some sv) 8 (by kernel_rfl) ?_ (fun hHeld => ?_)
      · exact c0
      refine take_gop0 0 (some 19) (v := ?_) rfl rfl (by kernel_rfl) (by kernel_rfl) (by kernel_rfl) (by kernel_rfl) (fun _ _ _ h => h) (Or.inl ⟨by rfl, ?_⟩) (by first | exact fun _ => by assumption | exact fun h => absurd h (by decide)) ?_
      rotate_left
      · intro w_ hSw_; (try dsimp only at hSw_); go_simp; (try with_reducible rfl)
      try simp only [Act.put, List.setIfInBounds_toArray, List.set_cons_zero, List.set_cons_succ]
      refine take_gop0 1 (some 20) (v := ?_) rfl rfl (by kernel_rfl) (by kernel_rfl) (by kernel_rfl) (by kernel_rfl) (fun _ _ _ h => h) (Or.inl ⟨by rfl, ?_⟩) (by first | exact fun _ => by assumption | exact fun h => absurd h (by decide)) ?_
      rotate_left
      · intro w_ hSw_; (try dsimp only at hSw_); go_simp; (try with_reducible rfl)
      try simp only [Act.put, List.setIfInBounds_toArray, List.set_cons_zero, List.set_cons_succ]
      refine take_gop0 2 (some 21) (v := ?_) rfl rfl (by kernel_rfl) (by kernel_rfl) (by kernel_rfl) (by kernel_rfl) (fun _ _ _ h => h) (Or.inl ⟨by rfl, ?_⟩) (by first | exact fun _ => by assumption | exact fun h => absurd h (by decide)) ?_
      rotate_left
      · intro w_ hSw_; (try dsimp only at hSw_); go_simp; (try with_reducible rfl)
      try simp only [Act.put, List.setIfInBounds_toArray, List.set_cons_zero, List.set_cons_succ]
      refine take_gop0 3 (some 22) (v := ?_) rfl rfl (by kernel_rfl) (by kernel_rfl) (by kernel_rfl) (by kernel_rfl) (fun _ _ _ h => h) (Or.inl ⟨by rfl, ?_⟩) (by first | exact fun _ => by assumption | exact fun h => absurd h (by decide)) ?_
      rotate_left
      · intro w_ hSw_; (try dsimp only at hSw_); go_simp; (try with_reducible rfl)
      try simp only [Act.put, List.setIfInBounds_toArray, List.set_cons_zero, List.set_cons_succ]
      refine take_gop 4 (some 23) (v := ?_) rfl rfl (by kernel_rfl) (by kernel_rfl) (by kernel_rfl) (by kernel_rfl) (fun _ _ _ h => h) (Or.inl ⟨by rfl, ?_⟩) (by assumption) ?_
      rotate_left
      · intro w_ hSw_; (try dsimp only at hSw_); go_simp; (try with_reducible rfl)
      try simp only [Act.put, List.setIfInBounds_toArray, List.set_cons_zero, List.set_cons_succ]
      refine go_gopS 5 rfl (by kernel_rfl) (fun K_ hK_ => ?_)
      refine step_makeB sl_u8 u8_info .i64 .i64 256 (some 24) rfl rfl rfl rfl rfl (by omega) (by omega) ?_
      intro w1 hb1 hz1 hr1
      replace hr1 := Lib.hid hr1
      simp only [Act.put, List.setIfInBounds_toArray, List.set_cons_zero, List.set_cons_succ]
      have HN1 : Hid (NewAt w1 w.heap.size sv k) := Lib.hid ⟨HN.out.blk.drew.below hb1 HN.out.blk.lt, owns_below HN.out.row.drew hb1 (Nat.le_refl _)⟩
      have c1 : w1.cell? ⟨w.heap.size, 0, none⟩ = some sv := HN1.out.blk.cell 0
      refine hK_.out _ _ ?_ (fun hHeld_ => ?_)
      · exact c1
      refine go_gopS 6 rfl (by kernel_rfl) (fun K_ hK_ => ?_)
      refine step_toStr sl_u8 u8_u str_u wr.drew.heap.size 0 256 (List.replicate 256 0) 256 List.length_replicate.symm (some 25) rfl rfl rfl rfl (fun j hj => ?_) ?_
      · rw [Nat.zero_add]; exact (hr1.out j hj).1
      have hzs : (⟨(List.replicate 256 (0 : UInt8)).toArray⟩ : ByteArray) = zs := rfl
      rw [hzs]
      simp only [Act.put, List.setIfInBounds_toArray, List.set_cons_zero, List.set_cons_succ]
      refine hK_.out _ _ ?_ (fun hHeld_ => ?_)
      · exact c1
      refine go_gopS 7 rfl (by kernel_rfl) (fun K_ hK_ => ?_)
      go_simp
      have HN2 : Hid (NewAt (w1.alloc (.cells #[.string zs] 9)) w.heap.size sv k) := Lib.hid ⟨HN1.out.blk.alloc _, owns_below HN1.out.row ((Below.refl _ _).alloc (Nat.le_refl w1.heap.size) _) (Nat.le_refl _)⟩
      have HB2 : Hid (Below w.heap.size w (w1.alloc (.cells #[.string zs] 9))) := Lib.hid (HB.out.drew.trans ((hb1.mono (by have := HB.out.size; exact this)).alloc (by have h3 := HB.out.size; have h4 : w1.heap.size = wr.heap.size + 1 := hz1; omega) _))
      have c2 : (w1.alloc (.cells #[.string zs] 9)).cell? ⟨w.heap.size, 0, none⟩ = some sv := HN2.out.blk.cell 0
      have cz : (w1.alloc (.cells #[.string zs] 9)).cell? ⟨wr.heap.size + 1, 0, none⟩ = some (.string zs) := (Blk.new' w1 #[.string zs] 9 hz1.symm).cell 0
      have hs2 : w.heap.size + 1 ≤ (w1.alloc (.cells #[.string zs] 9)).heap.size := HN2.out.blk.lt
      clear c0 c1 f0 hHeld HN1 HN HB hr1
      revert HN2 HB2 c2 cz hs2
      generalize w1.alloc (.cells #[.string zs] 9) = w2
      intro HN2 HB2 c2 cz hs2
      refine hK_.out _ _ ?_ (fun hHeld_ => ?_)
      · exact c2
      refine go_gopF 8 rfl (by kernel_rfl) (by kernel_rfl) (fun K_ hK_ => ?_)
      refine step_app sl_str str_info rfl (some 27) rfl rfl rfl (w.heap.size + 1) sv k (List.replicate k (.string zs)) rfl HN2.out.row ⟨wr.heap.size + 1, 0, none⟩ 1 (.string zs) rfl cz rfl (by simp [maxLen]; omega) (by omega) hs2 ?_
      intro g cap w3 hown hgrow hat hlt3
      have hbl := owns_block HN2.out.row
      have hb3 : Blk w3 w.heap.size #[sv, .bool false, .bool false, .int .i64 0, .int .i64 0, .int .i64 0] 52 := (hgrow.block _ HN2.out.blk.lt (fun e => by have := hbl _ e.symm; omega)).trans HN2.out.blk
      have HB3 : Hid (Below w.heap.size w w3) := Lib.hid (HB2.out.trans (below_grown hgrow (by omega) (fun k hk => by have := hbl k hk; omega)))
      have c3 : w3.cell? ⟨w.heap.size, 0, none⟩ = some sv := hb3.cell 0
      have f3 := hb3.free 0
      have hne : w.heap.size ≠ g := by
        rcases hat with h | h
        · have := hbl _ h; omega
        · omega
      have HO := Lib.hid hown
      have H3 := Lib.hid hb3
      clear hown hb3 hgrow hat hbl HN2 HB2 c2 cz hs2
      simp only [Act.put, List.setIfInBounds_toArray, List.set_cons_zero, List.set_cons_succ]
      refine hK_.out _ _ ?_
      refine take_gop0 9 (some 28) (v := ?_) rfl rfl (by kernel_rfl) (by kernel_rfl) (by kernel_rfl) (by kernel_rfl) (fun _ _ _ h => h) (Or.inl ⟨by rfl, ?_⟩) (by first | exact fun _ => by assumption | exact fun h => absurd h (by decide)) ?_
      rotate_left
      · intro w_ hSw_; (try dsimp only at hSw_); go_simp; (try with_reducible rfl)
      try simp only [Act.put, List.setIfInBounds_toArray, List.set_cons_zero, List.set_cons_succ]
      refine take_gop0 10 (some 29) (v := ?_) rfl rfl (by kernel_rfl) (by kernel_rfl) (by kernel_rfl) (by kernel_rfl) (fun _ _ _ h => h) (Or.inl ⟨by rfl, ?_⟩) (by first | exact fun _ => by assumption | exact fun h => absurd h (by decide)) ?_
      rotate_left
      · intro w_ hSw_; (try dsimp only at hSw_); go_simp; (try with_reducible rfl)
      try simp only [Act.put, List.setIfInBounds_toArray, List.set_cons_zero, List.set_cons_succ]
      refine go_gopF 11 rfl (by kernel_rfl) (by kernel_rfl) (fun K_ hK_ => ?_)
      go_simp
      refine hK_.out _ _ ?_
      refine AnyG.done (by kernel_rfl) ?_ _
      go_wp2
      go_roundw
      case rel =>
        refine ⟨k + 1, _, by omega, by go_num, ⟨H3.out.setCell 0 _, ?_⟩, HB3.out.setCell (p := ⟨w.heap.size, 0, none⟩) (Nat.le_refl _) _⟩
        rw [List.replicate_succ']
        refine ⟨HO.out.1, ?_⟩
        rcases HO.out.2 with ⟨h, _⟩ | ⟨g', cap', cur, h1, h2, h3, h4⟩
        · cases h
        · refine .inr ⟨g', cap', cur, h1, h2, ?_, h4⟩
          cases h1
          exact (Below.heap_setCell _ _ _ _ (Ne.symm hne)).trans h3
      case measure => simp [intOf]; omega
    · have hkn : k = n := by omega
      go_wp2
      go_ret2
      subst hkn
      rcases HN.out.row.2 with ⟨_, h0⟩ | ⟨g, cap, cur, hv, hg, hcur, hkc, hcm, hcs, hcells⟩
      · omega
      · subst hv
        refine ⟨w.heap.size, g, rfl, ⟨by omega, dNew_wf h1 h2, 0, cap, cur, ?_, hcur, ?_, hcm, ?_, fun h => by cases h⟩, HB.out, Nat.le_refl _, by omega⟩
        · have : refRow g cap 0 (dNew k) = #[.slice (some ⟨g, 0, none⟩) k cap, .bool false, .bool false, .int .i64 0, .int .i64 0, .int .i64 0] := by simp [refRow, dNew]
          rw [this]; exact HN.out.blk
        · simpa [dNew] using hkc
        · intro i hi
          have hi' : i < k := by simpa [dNew] using hi
          have e1 : (dNew k).at i = zs := by simp [DM.at, dNew, hi']
          rw [e1]
          have h5 := congrArg (fun l : List Value => l[i]?) hcells
          simp [hi'] at h5
          exact h5
end Go.Proofs.YtcakellhellddaaGreatDoor
namespace Go.Proofs.YtcakellhellddaaGreatDoor
open Go.RowKit
theorem DiskAt.grownS {w w' : World} {b mb : Nat} {m : DM} (h : DiskAt w b mb m) (hb : Below w.heap.size w w') : DiskAt w' b mb m :=
  h.only (S := fun _ => False) (Only.of_below hb) (fun h => h) (fun h => h)
set_option maxRecDepth 100000 in
set_option maxHeartbeats 1000000 in
theorem same_any (b mb rb sb : Nat) (m : DM) (w : World) (hd : DiskAt w b mb m) (hq : RefAt w rb sb m) :
    Calls Tryz.prog 26 #[.pointer (some ⟨b, 0, none⟩), .pointer (some ⟨rb, 0, none⟩)] w fun e w' => e = .returned (.bool true) ∧ Below w.heap.size w w' := by
  have hlen := hd.wf.len
  have cells : ∀ w1, RefAt w1 rb sb m → ∃ cap, w1.cell? ⟨rb, 0, none⟩ = some (.slice (some ⟨sb, 0, none⟩) m.S.length cap) ∧ w1.cell? ⟨rb, 1, none⟩ = some (.bool m.dead) ∧ w1.cell? ⟨rb, 5, none⟩ = some (.int .i64 m.writes) := fun w1 h => by
    obtain ⟨_, _, l, cap, cur, hb, _⟩ := h
    exact ⟨cap, hb.cell 0, hb.cell 1, hb.cell 5⟩
  have HC := Lib.hid cells
  obtain ⟨cap, c0, c1, c5⟩ := cells w hq
  have HD := Lib.hid hd
  have HQ := Lib.hid hq
  clear hd hq cells
  have HD0 : Hid (DiskAt w.drew b mb m) := Lib.hid (HD.out.grownS ((Below.refl _ _).drew))
  go_enter Tryz.func26, Tryz.ntmps26
  go_wp2_with fail
  refine wp_region_held_drew (S := fun w1 => w1.cell? ⟨rb, 0, none⟩ = some (.slice (some ⟨sb, 0, none⟩) m.S.length cap) ∧ w1.cell? ⟨rb, 1, none⟩ = some (.bool m.dead) ∧ w1.cell? ⟨rb, 5, none⟩ = some (.int .i64 m.writes)) (by kernel_rfl) ?_ (fun hHeld => ?_)
  · exact ⟨c0, c1, c5⟩
  refine take_op 0 (some 10) (v := ?_) rfl rfl (by kernel_rfl) (by kernel_rfl) (by kernel_rfl) (fun _ _ _ h => h) (Or.inl ⟨by rfl, ?_⟩) (by assumption) ?_
  rotate_left
  · intro w_ hSw_; (try dsimp only at hSw_); go_simp; (try with_reducible rfl)
  try simp only [Act.put, List.setIfInBounds_toArray, List.set_cons_zero, List.set_cons_succ]
  refine take_op 2 (some 12) (v := ?_) rfl rfl (by kernel_rfl) (by kernel_rfl) (by kernel_rfl) (fun _ _ _ h => h) (Or.inl ⟨by rfl, ?_⟩) (by assumption) ?_
  rotate_left
  · intro w_ hSw_; (try dsimp only at hSw_); go_simp; (try with_reducible rfl)
  try simp only [Act.put, List.setIfInBounds_toArray, List.set_cons_zero, List.set_cons_succ]
  refine take_op 3 (some 13) (v := ?_) rfl rfl (by kernel_rfl) (by kernel_rfl) (by kernel_rfl) (fun _ _ _ h => h) (Or.inl ⟨by rfl, ?_⟩) (by assumption) ?_
  rotate_left
  · intro w_ hSw_; (try dsimp only at hSw_); go_simp; (try with_reducible rfl)
  try simp only [Act.put, List.setIfInBounds_toArray, List.set_cons_zero, List.set_cons_succ]
  refine take_op 4 (some 14) (v := ?_) rfl rfl (by kernel_rfl) (by kernel_rfl) (by kernel_rfl) (fun _ _ _ h => h) (Or.inl ⟨by rfl, ?_⟩) (by assumption) ?_
  rotate_left
  · intro w_ hSw_; (try dsimp only at hSw_); go_simp; (try with_reducible rfl)
  try simp only [Act.put, List.setIfInBounds_toArray, List.set_cons_zero, List.set_cons_succ]
  refine take_op 5 (some 15) (v := ?_) rfl rfl (by kernel_rfl) (by kernel_rfl) (by kernel_rfl) (fun _ _ _ h => h) (Or.inl ⟨by rfl, ?_⟩) (by assumption) ?_
  rotate_left
  · intro w_ hSw_; (try dsimp only at hSw_); go_simp; (try with_reducible rfl)
  try simp only [Act.put, List.setIfInBounds_toArray, List.set_cons_zero, List.set_cons_succ]
  refine go_op 1 rfl (by kernel_rfl) (fun K_ hK_ => ?_)
  go_simp
  refine (dead_any b mb m _ HD0.out).mono ?_
  rintro e w1 ⟨rfl, hw1⟩
  have hw1 := hw1.symm
  subst hw1
  refine hK_.out _ _ ?_ (fun hHeld_ => ?_)
  · exact ⟨c0, c1, c5⟩
  refine take_op 6 (some 16) (v := ?_) rfl rfl (by kernel_rfl) (by kernel_rfl) (by kernel_rfl) (fun _ _ _ h => h) (Or.inl ⟨by rfl, ?_⟩) (by assumption) ?_
  rotate_left
  · intro w_ hSw_; (try dsimp only at hSw_); go_simp; (try with_reducible rfl)
  try simp only [Act.put, List.setIfInBounds_toArray, List.set_cons_zero, List.set_cons_succ]
  refine take_op 7 (some 17) (v := ?_) rfl rfl (by kernel_rfl) (by kernel_rfl) (by kernel_rfl) (fun _ _ _ h => h) (Or.inl ⟨by rfl, ?_⟩) (by assumption) ?_
  rotate_left
  · intro w_ hSw_; (try dsimp only at hSw_); go_simp; (try with_reducible rfl)
  try simp only [Act.put, List.setIfInBounds_toArray, List.set_cons_zero, List.set_cons_succ]
  refine take_op 8 (some 18) (v := ?_) rfl rfl (by kernel_rfl) (by kernel_rfl) (by kernel_rfl) (fun _ _ _ h => h) (Or.inl ⟨by rfl, ?_⟩) (by assumption) ?_
  rotate_left
  · intro w_ hSw_; (try dsimp only at hSw_); go_simp; (try with_reducible rfl)
  try simp only [Act.put, List.setIfInBounds_toArray, List.set_cons_zero, List.set_cons_succ]
  refine take_op 10 (some 20) (v := ?_) rfl rfl (by kernel_rfl) (by kernel_rfl) (by kernel_rfl) (fun _ _ _ h => h) (Or.inl ⟨by rfl, ?_⟩) (by assumption) ?_
  rotate_left
  · intro w_ hSw_; (try dsimp only at hSw_); go_simp; (try with_reducible rfl)
  try simp only [Act.put, List.setIfInBounds_toArray, List.set_cons_zero, List.set_cons_succ]
  refine take_op 11 (some 21) (v := ?_) rfl rfl (by kernel_rfl) (by kernel_rfl) (by kernel_rfl) (fun _ _ _ h => h) (Or.inl ⟨by rfl, ?_⟩) (by assumption) ?_
  rotate_left
  · intro w_ hSw_; (try dsimp only at hSw_); go_simp; (try with_reducible rfl)
  try simp only [Act.put, List.setIfInBounds_toArray, List.set_cons_zero, List.set_cons_succ]
  refine take_op 12 (some 22) (v := ?_) rfl rfl (by kernel_rfl) (by kernel_rfl) (by kernel_rfl) (fun _ _ _ h => h) (Or.inl ⟨by rfl, ?_⟩) (by assumption) ?_
  rotate_left
  · intro w_ hSw_; (try dsimp only at hSw_); go_simp; (try with_reducible rfl)
  try simp only [Act.put, List.setIfInBounds_toArray, List.set_cons_zero, List.set_cons_succ]
  refine take_op 13 (some 23) (v := ?_) rfl rfl (by kernel_rfl) (by kernel_rfl) (by kernel_rfl) (fun _ _ _ h => h) (Or.inl ⟨by rfl, ?_⟩) (by assumption) ?_
  rotate_left
  · intro w_ hSw_; (try dsimp only at hSw_); go_simp; (try with_reducible rfl)
  try simp only [Act.put, List.setIfInBounds_toArray, List.set_cons_zero, List.set_cons_succ]
  refine take_op 14 (some 24) (v := ?_) rfl rfl (by kernel_rfl) (by kernel_rfl) (by kernel_rfl) (fun _ _ _ h => h) (Or.inl ⟨by rfl, ?_⟩) (by assumption) ?_
  rotate_left
  · intro w_ hSw_; (try dsimp only at hSw_); go_simp; (try with_reducible rfl)
  try simp only [Act.put, List.setIfInBounds_toArray, List.set_cons_zero, List.set_cons_succ]
  refine go_op 9 rfl (by kernel_rfl) (fun K_ hK_ => ?_)
  go_simp
  refine (size_any b mb m _ HD0.out).mono ?_
  rintro e w1 ⟨rfl, hw1⟩
  have hw1 := hw1.symm
  subst hw1
  refine hK_.out _ _ ?_ (fun hHeld_ => ?_)
  · exact ⟨c0, c1, c5⟩
  refine take_op 15 (some 25) (v := ?_) rfl rfl (by kernel_rfl) (by kernel_rfl) (by kernel_rfl) (fun _ _ _ h => h) (Or.inl ⟨by rfl, ?_⟩) (by assumption) ?_
  rotate_left
  · intro w_ hSw_; (try dsimp only at hSw_); go_simp; (try with_reducible rfl)
  try simp only [Act.put, List.setIfInBounds_toArray, List.set_cons_zero, List.set_cons_succ]
  refine take_op 16 (some 26) (v := ?_) rfl rfl (by kernel_rfl) (by kernel_rfl) (by kernel_rfl) (fun _ _ _ h => h) (Or.inl ⟨by rfl, ?_⟩) (by assumption) ?_
  rotate_left
  · intro w_ hSw_; (try dsimp only at hSw_); go_simp; (try with_reducible rfl)
  try simp only [Act.put, List.setIfInBounds_toArray, List.set_cons_zero, List.set_cons_succ]
  refine take_op 17 (some 27) (v := ?_) rfl rfl (by kernel_rfl) (by kernel_rfl) (by kernel_rfl) (fun _ _ _ h => h) (Or.inl ⟨by rfl, ?_⟩) (by assumption) ?_
  rotate_left
  · intro w_ hSw_; (try dsimp only at hSw_); go_simp; (try with_reducible rfl)
  try simp only [Act.put, List.setIfInBounds_toArray, List.set_cons_zero, List.set_cons_succ]
  refine take_op 18 (some 28) (v := ?_) rfl rfl (by kernel_rfl) (by kernel_rfl) (by kernel_rfl) (fun _ _ _ h => h) (Or.inl ⟨by rfl, ?_⟩) (by assumption) ?_
  rotate_left
  · intro w_ hSw_; (try dsimp only at hSw_); go_simp; (try with_reducible rfl)
  try simp only [Act.put, List.setIfInBounds_toArray, List.set_cons_zero, List.set_cons_succ]
  refine take_op 20 (some 30) (v := ?_) rfl rfl (by kernel_rfl) (by kernel_rfl) (by kernel_rfl) (fun _ _ _ h => h) (Or.inl ⟨by rfl, ?_⟩) (by assumption) ?_
  rotate_left
  · intro w_ hSw_; (try dsimp only at hSw_); go_simp; (try with_reducible rfl)
  try simp only [Act.put, List.setIfInBounds_toArray, List.set_cons_zero, List.set_cons_succ]
  refine take_op 21 (some 31) (v := ?_) rfl rfl (by kernel_rfl) (by kernel_rfl) (by kernel_rfl) (fun _ _ _ h => h) (Or.inl ⟨by rfl, ?_⟩) (by assumption) ?_
  rotate_left
  · intro w_ hSw_; (try dsimp only at hSw_); go_simp; (try with_reducible rfl)
  try simp only [Act.put, List.setIfInBounds_toArray, List.set_cons_zero, List.set_cons_succ]
  refine take_op 22 (some 32) (v := ?_) rfl rfl (by kernel_rfl) (by kernel_rfl) (by kernel_rfl) (fun _ _ _ h => h) (Or.inl ⟨by rfl, ?_⟩) (by assumption) ?_
  rotate_left
  · intro w_ hSw_; (try dsimp only at hSw_); go_simp; (try with_reducible rfl)
  try simp only [Act.put, List.setIfInBounds_toArray, List.set_cons_zero, List.set_cons_succ]
  refine take_op 23 (some 33) (v := ?_) rfl rfl (by kernel_rfl) (by kernel_rfl) (by kernel_rfl) (fun _ _ _ h => h) (Or.inl ⟨by rfl, ?_⟩) (by assumption) ?_
  rotate_left
  · intro w_ hSw_; (try dsimp only at hSw_); go_simp; (try with_reducible rfl)
  try simp only [Act.put, List.setIfInBounds_toArray, List.set_cons_zero, List.set_cons_succ]
  refine go_op 19 rfl (by kernel_rfl) (fun K_ hK_ => ?_)
  go_simp
  refine (writes_any b mb m _ HD0.out).mono ?_
  rintro e w1 ⟨rfl, hw1⟩
  have hw1 := hw1.symm
  subst hw1
  refine hK_.out _ _ ?_ (fun hHeld_ => ?_)
  · exact ⟨c0, c1, c5⟩
  refine take_op 24 (some 34) (v := ?_) rfl rfl (by kernel_rfl) (by kernel_rfl) (by kernel_rfl) (fun _ _ _ h => h) (Or.inl ⟨by rfl, ?_⟩) (by assumption) ?_
  rotate_left
  · intro w_ hSw_; (try dsimp only at hSw_); go_simp; (try with_reducible rfl)
  try simp only [Act.put, List.setIfInBounds_toArray, List.set_cons_zero, List.set_cons_succ]
  refine take_op 25 (some 35) (v := ?_) rfl rfl (by kernel_rfl) (by kernel_rfl) (by kernel_rfl) (fun _ _ _ h => h) (Or.inl ⟨by rfl, ?_⟩) (by assumption) ?_
  rotate_left
  · intro w_ hSw_; (try dsimp only at hSw_); go_simp; (try with_reducible rfl)
  try simp only [Act.put, List.setIfInBounds_toArray, List.set_cons_zero, List.set_cons_succ]
  refine wpAnyH_done (by kernel_rfl) ?_ _
  go_wp2_with fail
  obtain ⟨n, hn⟩ : ∃ n, n = m.S.length := ⟨_, rfl⟩
  rw [← hn] at hlen ⊢
  have HN := Lib.hid hn
  clear hn hHeld c0 c1 c5 HD0
  go_loopw [5] (fun v wr => ∃ k : Int, -1 ≤ k ∧ k ≤ n + 1 ∧ v = .int .i64 k ∧ Below w.heap.size w wr) (fun v _ => (n + 1 - intOf v).toNat)
  case atStart => exact ⟨-1, by omega, by omega, rfl, (Below.refl _ _).drew⟩
  case round =>
    obtain ⟨k, hk1, hk2, rfl, hB⟩ := hrel
    have HB := Lib.hid hB
    obtain ⟨cap', c0, _, _⟩ := HC.out wr (HQ.out.grown hB)
    rw [← HN.out] at c0
    clear hB
    by_cases hlt : k ≤ n
    · go_wp2_with fail
      refine (read_any b mb m k wr (HD.out.grownS HB.out)).mono ?_
      rintro e w1 ⟨rfl, hb1⟩
      have HB1 := Lib.hid (HB.out.trans (hb1.mono HB.out.size))
      clear hb1 HB c0
      go_wp2_with fail
      refine (ref_read rb sb m k w1 (HQ.out.grown HB1.out)).mono ?_
      rintro e w2 ⟨rfl, hw2⟩
      have hw2 := hw2.symm
      subst hw2
      generalize (m.read k).1 = r1
      generalize (m.read k).2 = r2
      go_wp2_with fail
      go_roundw
      case rel => exact ⟨k + 1, by omega, by omega, by go_num, HB1.out⟩
      case measure => simp [intOf]; omega
    · go_wp2_with fail
      go_ret
      exact ⟨rfl, HB.out⟩
end Go.Proofs.YtcakellhellddaaGreatDoor
