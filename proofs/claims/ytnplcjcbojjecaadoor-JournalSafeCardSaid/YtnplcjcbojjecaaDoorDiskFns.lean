import Derived.Test.YtnplcjcbojjecaaDoorDiskAt
set_option linter.unusedSimpArgs false
set_option linter.unusedVariables false
namespace Go.Proofs.YtnplcjcbojjecaaDoor
open Go.RowKit
def nul : ByteArray := ⟨#[0]⟩
theorem zs_rep : (⟨(Lib.repeatL nul.data.toList 256).toArray⟩ : ByteArray) = zs := by
  have h : ∀ n, Lib.repeatL [(0 : UInt8)] n = List.replicate n 0 := by
    intro n
    induction n with
    | zero => rfl
    | succ n ih => rw [Lib.repeatL, ih, List.replicate_succ]; rfl
  show (⟨(Lib.repeatL [(0 : UInt8)] 256).toArray⟩ : ByteArray) = _
  rw [h]; rfl
theorem rep_any (w : World) : Calls Tryd.prog 43 #[.string ⟨#[0]⟩, .int .i64 256] w fun e w' => e = .returned (.string zs) ∧ Below w.heap.size w w' := by
  have h := Tryd.strings_Repeat nul 256 w (by decide) (by decide)
  rw [zs_rep] at h
  exact h
theorem at_any (b mb : Nat) (m : DM) (i : Nat) (w : World) (h : DiskAt w b mb m) (hi : i < m.S.length) :
    Calls Tryd.prog 85 #[.pointer (some ⟨b, 0, none⟩), .int .i64 i] w fun e w' => e = .returned (.string (m.at i)) ∧ Below w.heap.size w w' := by
  obtain ⟨hne, hwf, l, f, hb, hm, hs, hl⟩ := h
  have c1 : w.cell? ⟨b, 1, none⟩ = some (.map (some mb)) := hb.cell 1
  rcases hs i hi with ⟨h1, h2⟩ | h1
  · have H1 := Lib.hid h1
    have H2 := Lib.hid h2
    clear hb hl hs h1 h2 hwf hne
    go_enter Tryd.func85, Tryd.ntmps85
    go_wp2_with (first | ((with_reducible refine at_look_ok int_key diskMap_u sector_zero hm (i : Int) ?_ ?_ ?_); exact rfl; exact rfl; rw [H1.out]; dsimp only [Option.getD, Option.isSome]) | (go_at_call 43; refine (rep_any _).mono ?_; rintro e w1 ⟨rfl, hb1⟩))
    go_ret
    exact ⟨by rw [H2.out]; rfl, ((Below.refl _ _).alloc (Nat.le_refl _) _).trans (hb1.mono (by simp))⟩
  · have H1 := Lib.hid h1
    obtain ⟨s, hsx⟩ : ∃ s, s = m.at i := ⟨_, rfl⟩
    rw [← hsx] at H1
    have H2 := Lib.hid hsx
    clear hb hl hs h1 hwf hne hsx
    go_enter Tryd.func85, Tryd.ntmps85
    go_wp2_with (first | ((with_reducible refine at_look_ok int_key diskMap_u sector_zero hm (i : Int) ?_ ?_ ?_); exact rfl; exact rfl; rw [H1.out]; dsimp only [Option.getD, Option.isSome]) | (go_at_call 43; refine (rep_any _).mono ?_; rintro e w1 ⟨rfl, hb1⟩))
    go_ret
    exact ⟨by rw [← H2.out]; rfl, (Below.refl _ _).alloc (Nat.le_refl _) _⟩
theorem may_cases (m : DM) (i : Int) : m.may i = 0 ∨ m.may i = 1 ∨ m.may i = 74 := by
  unfold DM.may; split <;> (try split) <;> simp
theorem read_any (b mb : Nat) (m : DM) (i : Int) (w : World) (h : DiskAt w b mb m) :
    Calls Tryd.prog 56 #[.pointer (some ⟨b, 0, none⟩), .int .i64 i] w fun e w' => e = .returned (.tuple #[.string (m.read i).1, .int .i64 (m.read i).2]) ∧ Below w.heap.size w w' := by
  have HM := Lib.hid (may_any b mb m i w h)
  by_cases hz : m.may i = 0
  · obtain ⟨hd, h0, h1⟩ := DM.good_of_may hz
    obtain ⟨j, rfl⟩ := Int.eq_ofNat_of_zero_le h0
    have HA := Lib.hid (at_any b mb m j w h (by omega))
    have HZ := Lib.hid hz
    have HR : Hid (m.read (j : Int) = (m.at j, 0)) := by refine Lib.hid ?_; unfold DM.read; rw [if_pos hz]; rfl
    clear hz hd h0 h1 h
    go_enter Tryd.func56, Tryd.ntmps56
    go_wp2_with (first | (go_at_call 84; refine HM.out.mono ?_; rintro e w' ⟨rfl, rfl⟩; rw [HZ.out]) | (go_at_call 85; refine HA.out.mono ?_; rintro e w1 ⟨rfl, hb1⟩))
    go_ret2
    exact ⟨by rw [HR.out]; rfl, hb1⟩
  · have hb : (m.may i != 0) = true := by simpa using hz
    have HR : Hid (m.read i = (ByteArray.empty, m.may i)) := by refine Lib.hid ?_; unfold DM.read; rw [if_neg hz]
    clear hz h
    go_enter Tryd.func56, Tryd.ntmps56
    go_wp2_with (first | (go_at_call 84; refine HM.out.mono ?_; rintro e w' ⟨rfl, rfl⟩))
    go_ret2
    exact ⟨by rw [HR.out]; rfl, Below.refl _ _⟩
theorem read_nil (i : Int) (w : World) :
    Calls Tryd.prog 56 #[.pointer none, .int .i64 i] w fun e w' => e = .returned (.tuple #[.string ByteArray.empty, .int .i64 1]) ∧ w' = w := by
  go_enter Tryd.func56, Tryd.ntmps56
  go_wp2_with (first | (go_at_call 84; refine (may_nil i _).mono ?_; rintro e w' ⟨rfl, rfl⟩))
  go_ret2
  exact ⟨rfl, rfl⟩
theorem size_any (b mb : Nat) (m : DM) (w : World) (h : DiskAt w b mb m) :
    Calls Tryd.prog 55 #[.pointer (some ⟨b, 0, none⟩)] w fun e w' => e = .returned (.int .i64 (m.S.length : Int)) ∧ w' = w := by
  obtain ⟨hne, hwf, l, f, hb, hm, hs, hl⟩ := h
  have c0 : w.cell? ⟨b, 0, none⟩ = some (.int .i64 (m.S.length : Int)) := hb.cell 0
  clear hb hm hs hl hwf hne
  go_enter Tryd.func55, Tryd.ntmps55
  go_wp2
  go_ret
  exact ⟨rfl, rfl⟩
theorem size_nil (w : World) : Calls Tryd.prog 55 #[.pointer none] w fun e w' => e = .returned (.int .i64 0) ∧ w' = w := by
  go_enter Tryd.func55, Tryd.ntmps55
  go_wp2
  go_ret
  exact ⟨rfl, rfl⟩
theorem writes_any (b mb : Nat) (m : DM) (w : World) (h : DiskAt w b mb m) :
    Calls Tryd.prog 30 #[.pointer (some ⟨b, 0, none⟩)] w fun e w' => e = .returned (.int .i64 m.writes) ∧ w' = w := by
  obtain ⟨hne, hwf, l, f, hb, hm, hs, hl⟩ := h
  have c0 : w.cell? ⟨b, 2, none⟩ = some (.int .i64 m.writes) := hb.cell 2
  clear hb hm hs hl hwf hne
  go_enter Tryd.func30, Tryd.ntmps30
  go_wp2
  go_ret
  exact ⟨rfl, rfl⟩
theorem writes_nil (w : World) : Calls Tryd.prog 30 #[.pointer none] w fun e w' => e = .returned (.int .i64 0) ∧ w' = w := by
  go_enter Tryd.func30, Tryd.ntmps30
  go_wp2
  go_ret
  exact ⟨rfl, rfl⟩
/-- Stores into the disk's own block: what the row is behind them. -/
def own2 (b mb : Nat) : Nat → Prop := fun k => k = b ∨ k = mb
theorem start_nil (w : World) : Calls Tryd.prog 39 #[.pointer none] w fun e w' => e = .returned (.tuple #[]) ∧ w' = w := by
  go_enter Tryd.func39, Tryd.ntmps39
  go_wp2
  go_end0
  exact ⟨rfl, rfl⟩
theorem start_any (b mb : Nat) (m : DM) (w : World) (h : DiskAt w b mb m) :
    Calls Tryd.prog 39 #[.pointer (some ⟨b, 0, none⟩)] w fun e w' => e = .returned (.tuple #[]) ∧ DiskAt w' b mb m.start ∧ Only (own2 b mb) w w' := by
  obtain ⟨hne, hwf, l, f, hb, hm, hs, hl⟩ := h
  have c3 : w.cell? ⟨b, 3, none⟩ = some (.bool m.armed) := hb.cell 3
  have c6 : w.cell? ⟨b, 6, none⟩ = some (.bool m.dead) := hb.cell 6
  have f3 := hb.free 3
  have f6 := hb.free 6
  have hb' : Blk ((w.setCell ⟨b, 6, none⟩ (.bool false)).setCell ⟨b, 3, none⟩ (.bool false)) b (diskRow mb l m.start) 89 := (hb.setCell 6 (.bool false)).setCell 3 (.bool false)
  have ho : Only (own2 b mb) w ((w.setCell ⟨b, 6, none⟩ (.bool false)).setCell ⟨b, 3, none⟩ (.bool false)) := ((Only.refl _ _).setCell (fun _ => .inl rfl) _).setCell (fun _ => .inl rfl) _
  have hm' := hm.of_block (w' := (w.setCell ⟨b, 6, none⟩ (.bool false)).setCell ⟨b, 3, none⟩ (.bool false)) ((Below.heap_setCell _ _ _ _ (Ne.symm hne)).trans (Below.heap_setCell _ _ _ _ (Ne.symm hne)))
  have HB := Lib.hid hb'
  have HO := Lib.hid ho
  have HM := Lib.hid hm'
  clear hb hb' ho hm hm'
  go_enter Tryd.func39, Tryd.ntmps39
  go_wp2
  go_end0
  exact ⟨rfl, ⟨hne, DM.start_wf hwf, l, f, HB.out, HM.out, hs, fun h => by cases h⟩, HO.out⟩
end Go.Proofs.YtnplcjcbojjecaaDoor
