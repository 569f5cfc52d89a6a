import Derived.Test.YtcienfbkcfhfcaaDiskWr
set_option linter.unusedSimpArgs false
set_option linter.unusedVariables false
namespace Go.Proofs.Ytcienfbkcfhfcaa
open Go.RowKit
/-! The reference's disk: the same plain model. -/
def refRow (sb cap : Nat) (l : Int) (m : DM) : Array Value :=
  #[.slice (some ⟨sb, 0, none⟩) m.S.length cap, .bool m.dead, .bool m.armed, .int .i64 l, .int .i64 (m.part : Int), .int .i64 m.writes]
/-- A reference disk: its block b, its sectors' row sb. -/
structure RefAt (w : World) (b sb : Nat) (m : DM) : Prop where
  ne : b ≠ sb
  wf : m.wf
  at_ : ∃ l cap cur, Blk w b (refRow sb cap l m) 54 ∧ Blk w sb cur 9 ∧ m.S.length ≤ cap ∧ cap ≤ maxLen ∧ (∀ i, i < m.S.length → cur[i]? = some (.string (m.at i))) ∧ (m.armed = true → l = m.left)
theorem RefAt.only {S : Nat → Prop} {w w' : World} {b mb : Nat} {m : DM} (h : RefAt w b mb m) (ho : Only S w w') (h1 : ¬ S b) (h2 : ¬ S mb) : RefAt w' b mb m := by
  obtain ⟨hne, hwf, l, cap, cur, hb, hm, hs, hl⟩ := h
  exact ⟨hne, hwf, l, cap, cur, ho.blk hb h1, ho.blk hm h2, hs, hl⟩
theorem RefAt.lt {w : World} {b mb : Nat} {m : DM} (h : RefAt w b mb m) : b < w.heap.size ∧ mb < w.heap.size := by
  obtain ⟨hne, hwf, l, cap, cur, hb, hm, hs, hl⟩ := h
  exact ⟨hb.lt, hm.lt⟩
theorem RefAt.grown {w w' : World} {b mb : Nat} {m : DM} (h : RefAt w b mb m) (hb : Below w.heap.size w w') : RefAt w' b mb m :=
  h.only (S := fun _ => False) (Only.of_below hb) (fun h => h) (fun h => h)
theorem ref_read (b sb : Nat) (m : DM) (i : Int) (w : World) (h : RefAt w b sb m) :
    Calls Try.prog 28 #[.pointer (some ⟨b, 0, none⟩), .int .i64 i] w fun e w' => e = .returned (.tuple #[.string (m.read i).1, .int .i64 (m.read i).2]) ∧ w' = w := by
  obtain ⟨hne, hwf, l, cap, cur, hb, hm, hs1, hs2, hs, hl⟩ := h
  have hlen := hwf.len
  have c0 : w.cell? ⟨b, 0, none⟩ = some (.slice (some ⟨sb, 0, none⟩) m.S.length cap) := hb.cell 0
  have c1 : w.cell? ⟨b, 1, none⟩ = some (.bool m.dead) := hb.cell 1
  obtain ⟨n, hn⟩ : ∃ n, n = m.S.length := ⟨_, rfl⟩
  rw [← hn] at c0 hs hs1 hlen
  have HN := Lib.hid hn
  clear hb hl hwf hn
  cases hd : m.dead
  · rw [hd] at c1
    by_cases h0 : 0 ≤ i
    · by_cases h1 : i < n
      · obtain ⟨j, rfl⟩ := Int.eq_ofNat_of_zero_le h0
        have hjn : j < n := by omega
        have hr : m.read (j : Int) = (m.at j, 0) := by
          unfold DM.read DM.may DM.good
          rw [hd]; simp; rw [← HN.out]; simp [hjn]; exact fun h => absurd h (by omega)
        have cs : w.cell? ⟨sb, j, none⟩ = some (.string (m.at j)) := (hm.cell j).trans (hs j hjn)
        rw [hr]
        have HJ := Lib.hid hjn
        clear hr hd hs hm h0
        go_enter Try.func28, Try.ntmps28
        go_wp2
        go_ret2
        exact ⟨rfl, rfl⟩
      · have hr : m.read i = (ByteArray.empty, 1) := by
          unfold DM.read DM.may DM.good
          rw [hd]; simp; rw [← HN.out]; simp [h1]
        rw [hr]
        clear hr hd hs hm
        go_enter Try.func28, Try.ntmps28
        go_wp2
        go_ret2
        exact ⟨rfl, rfl⟩
    · have hr : m.read i = (ByteArray.empty, 1) := by
        unfold DM.read DM.may DM.good
        rw [hd]; simp [h0]
      rw [hr]
      clear hr hd hs hm
      go_enter Try.func28, Try.ntmps28
      go_wp2
      go_ret2
      exact ⟨rfl, rfl⟩
  · rw [hd] at c1
    have hr : m.read i = (ByteArray.empty, 74) := by
      unfold DM.read DM.may DM.good
      rw [hd]; simp
    rw [hr]
    clear hr hd hs hm
    go_enter Try.func28, Try.ntmps28
    go_wp2
    go_ret2
    exact ⟨rfl, rfl⟩
theorem ref_start (b sb : Nat) (m : DM) (w : World) (h : RefAt w b sb m) :
    Calls Try.prog 32 #[.pointer (some ⟨b, 0, none⟩)] w fun e w' => e = .returned (.tuple #[]) ∧ RefAt w' b sb m.start ∧ Only (own2 b sb) w w' := by
  obtain ⟨hne, hwf, l, cap, cur, hb, hm, hs⟩ := h
  have c1 : w.cell? ⟨b, 1, none⟩ = some (.bool m.dead) := hb.cell 1
  have c2 : w.cell? ⟨b, 2, none⟩ = some (.bool m.armed) := hb.cell 2
  have f1 := hb.free 1
  have f2 := hb.free 2
  have hb' : Blk ((w.setCell ⟨b, 1, none⟩ (.bool false)).setCell ⟨b, 2, none⟩ (.bool false)) b (refRow sb cap l m.start) 54 := (hb.setCell 1 (.bool false)).setCell 2 (.bool false)
  have ho : Only (own2 b sb) w ((w.setCell ⟨b, 1, none⟩ (.bool false)).setCell ⟨b, 2, none⟩ (.bool false)) := ((Only.refl _ _).setCell (fun _ => .inl rfl) _).setCell (fun _ => .inl rfl) _
  have hm' := (hm.setCell_other (a := ⟨b, 1, none⟩) (Ne.symm hne) (.bool false)).setCell_other (a := ⟨b, 2, none⟩) (Ne.symm hne) (.bool false)
  have HB := Lib.hid hb'
  have HO := Lib.hid ho
  have HM := Lib.hid hm'
  clear hb hb' ho hm hm'
  go_enter Try.func32, Try.ntmps32
  go_wp2
  go_end0
  exact ⟨rfl, ⟨hne, DM.start_wf hwf, l, cap, cur, HB.out, HM.out, hs.1, hs.2.1, hs.2.2.1, fun h => by cases h⟩, HO.out⟩
set_option maxHeartbeats 400000 in
theorem ref_arm (b sb : Nat) (m : DM) (n p : Int) (w : World) (h : RefAt w b sb m) :
    Calls Try.prog 30 #[.pointer (some ⟨b, 0, none⟩), .int .i64 n, .int .i64 p] w fun e w' => e = .returned (.int .i64 (m.arm n p).2) ∧ RefAt w' b sb (m.arm n p).1 ∧ Only (own2 b sb) w w' := by
  by_cases ha : DM.arms n p = true
  · have hx : 0 ≤ n ∧ n ≤ 100000 ∧ 0 ≤ p ∧ p ≤ 256 := by simpa [DM.arms] using ha
    obtain ⟨hx1, hx2, hx3, hx4⟩ := hx
    obtain ⟨q, rfl⟩ := Int.eq_ofNat_of_zero_le hx3
    have hwf' := DM.arm_wf h.wf n (q : Int)
    obtain ⟨hne, hwf, l, cap, cur, hb, hm, hs1, hs2, hs, hl⟩ := h
    have c2 : w.cell? ⟨b, 2, none⟩ = some (.bool m.armed) := hb.cell 2
    have c3 : w.cell? ⟨b, 3, none⟩ = some (.int .i64 l) := hb.cell 3
    have c4 : w.cell? ⟨b, 4, none⟩ = some (.int .i64 (m.part : Int)) := hb.cell 4
    have f2 := hb.free 2
    have f3 := hb.free 3
    have f4 := hb.free 4
    have hr : m.arm n (q : Int) = ({ m with armed := true, left := n, part := q }, 0) := by unfold DM.arm; rw [if_pos ha]; rfl
    rw [hr] at hwf'
    have HR := Lib.hid hr
    have hb' := ((hb.setCell 2 (.bool true)).setCell 3 (.int .i64 n)).setCell 4 (.int .i64 (q : Int))
    have ho : Only (own2 b sb) w (((w.setCell ⟨b, 2, none⟩ (.bool true)).setCell ⟨b, 3, none⟩ (.int .i64 n)).setCell ⟨b, 4, none⟩ (.int .i64 (q : Int))) :=
      (((Only.refl _ _).setCell (fun _ => .inl rfl) _).setCell (fun _ => .inl rfl) _).setCell (fun _ => .inl rfl) _
    have hm' := ((hm.setCell_other (a := ⟨b, 2, none⟩) (Ne.symm hne) (.bool true)).setCell_other (a := ⟨b, 3, none⟩) (Ne.symm hne) (.int .i64 n)).setCell_other (a := ⟨b, 4, none⟩) (Ne.symm hne) (.int .i64 (q : Int))
    have HB := Lib.hid hb'
    have HO := Lib.hid ho
    have HM := Lib.hid hm'
    clear hb hb' ho hm hm' hr ha
    go_enter Try.func30, Try.ntmps30
    go_wp2
    go_ret
    exact ⟨by rw [HR.out]; rfl, by rw [HR.out]; exact ⟨hne, hwf', n, cap, cur, HB.out, HM.out, hs1, hs2, hs, fun _ => rfl⟩, HO.out⟩
  · have hr : m.arm n p = (m, 1) := by unfold DM.arm; rw [if_neg ha]
    rw [hr]
    have hx : ¬ (0 ≤ n ∧ n ≤ 100000 ∧ 0 ≤ p ∧ p ≤ 256) := by simpa [DM.arms] using ha
    clear hr ha
    by_cases h1 : n < 0
    · clear hx
      go_enter Try.func30, Try.ntmps30
      go_wp2
      go_ret
      exact ⟨rfl, h, Only.refl _ _⟩
    · by_cases h2 : 100000 < n
      · clear hx
        go_enter Try.func30, Try.ntmps30
        go_wp2
        go_ret
        exact ⟨rfl, h, Only.refl _ _⟩
      · by_cases h3 : p < 0
        · clear hx
          go_enter Try.func30, Try.ntmps30
          go_wp2
          go_ret
          exact ⟨rfl, h, Only.refl _ _⟩
        · have h4 : 256 < p := by omega
          clear hx
          go_enter Try.func30, Try.ntmps30
          go_wp2
          go_ret
          exact ⟨rfl, h, Only.refl _ _⟩
end Go.Proofs.Ytcienfbkcfhfcaa
