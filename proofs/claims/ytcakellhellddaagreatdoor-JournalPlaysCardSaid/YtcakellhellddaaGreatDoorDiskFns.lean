import Derived.Test.YtcakellhellddaaGreatDoorShelf
import Derived.Test.YtcakellhellddaaGreatDoorDiskPlain
import Derived.Test.YtcakellhellddaaGreatDoorMp
import Derived.Deep.RegionHeld3
set_option linter.unusedSimpArgs false
set_option linter.unusedVariables false
namespace Go.Proofs.YtcakellhellddaaGreatDoor
open Go.RowKit
theorem diskMap_u : Tryz.prog.underlying 61 = some (.map 3 93) := by kernel_rfl
theorem int_key : MKey Tryz.prog 3 (fun n : Int => Value.int .i64 n) := MKey.int (by kernel_rfl)
theorem sector_zero (w : World) : (zeroValue 93).run Tryz.prog w = .ok (.agg #[.string ByteArray.empty]) w := by kernel_rfl
/-- What lies in a disk's own block. -/
def diskRow (mb : Nat) (l : Int) (m : DM) : Array Value :=
  #[.int .i64 (m.S.length : Int), .map (some mb), .int .i64 m.writes, .bool m.armed, .int .i64 l, .int .i64 (m.part : Int), .bool m.dead]
/-- The map of the sectors that were written. -/
def secs (m : DM) (f : Int → Option Value) : Prop := ∀ i : Nat, i < m.S.length → (f i = none ∧ m.at i = zs) ∨ f i = some (.agg #[.string (m.at i)])
/-- A disk: its block b, its map mb. -/
structure DiskAt (w : World) (b mb : Nat) (m : DM) : Prop where
  ne : b ≠ mb
  wf : m.wf
  at_ : ∃ l f, Blk w b (diskRow mb l m) 63 ∧ MapIs w (fun n : Int => Value.int .i64 n) mb f ∧ secs m f ∧ (m.armed = true → l = m.left)
theorem DiskAt.only {S : Nat → Prop} {w w' : World} {b mb : Nat} {m : DM} (h : DiskAt w b mb m) (ho : Only S w w') (h1 : ¬ S b) (h2 : ¬ S mb) : DiskAt w' b mb m := by
  obtain ⟨hne, hwf, l, f, hb, hm, hs, hl⟩ := h
  exact ⟨hne, hwf, l, f, ho.blk hb h1, hm.only ho h2, hs, hl⟩
theorem DiskAt.lt {w : World} {b mb : Nat} {m : DM} (h : DiskAt w b mb m) : b < w.heap.size ∧ mb < w.heap.size := by
  obtain ⟨hne, hwf, l, f, hb, hm, hs, hl⟩ := h
  exact ⟨hb.lt, hm.lt⟩
theorem may_any (b mb : Nat) (m : DM) (i : Int) (w : World) (h : DiskAt w b mb m) :
    Calls Tryz.prog 54 #[.pointer (some ⟨b, 0, none⟩), .int .i64 i] w fun e w' => e = .returned (.int .i64 (m.may i)) ∧ w' = w := by
  obtain ⟨hne, hwf, l, f, hb, hm, hs, hl⟩ := h
  have hlen := hwf.len
  have c0 : w.cell? ⟨b, 0, none⟩ = some (.int .i64 (m.S.length : Int)) := hb.cell 0
  have c6 : w.cell? ⟨b, 6, none⟩ = some (.bool m.dead) := hb.cell 6
  obtain ⟨n, hn⟩ : ∃ n, n = m.S.length := ⟨_, rfl⟩
  rw [← hn] at c0
  have HN := Lib.hid hn
  clear hb hm hs hl hwf
  cases hd : m.dead
  · rw [hd] at c6
    have HD := Lib.hid hd; clear hd
    by_cases h0 : 0 ≤ i
    · by_cases h1 : i < n
      · have HE : Hid (m.may i = 0) := by refine Lib.hid ?_; unfold DM.may DM.good; rw [HD.out, ← HN.out]; simp [h0, h1]
        clear hn
        go_enter Tryz.func54, Tryz.ntmps54
        go_wp2
        go_ret
        exact ⟨by rw [HE.out]; rfl, rfl⟩
      · have HE : Hid (m.may i = 1) := by refine Lib.hid ?_; unfold DM.may DM.good; rw [HD.out, ← HN.out]; simp [h1]
        clear hn
        go_enter Tryz.func54, Tryz.ntmps54
        go_wp2
        go_ret
        exact ⟨by rw [HE.out]; rfl, rfl⟩
    · have HE : Hid (m.may i = 1) := by refine Lib.hid ?_; unfold DM.may DM.good; rw [HD.out, ← HN.out]; simp [h0]
      clear hn
      go_enter Tryz.func54, Tryz.ntmps54
      go_wp2
      go_ret
      exact ⟨by rw [HE.out]; rfl, rfl⟩
  · rw [hd] at c6
    have HE : Hid (m.may i = 74) := by refine Lib.hid ?_; unfold DM.may; rw [hd]; rfl
    clear hn hd
    go_enter Tryz.func54, Tryz.ntmps54
    go_wp2
    go_ret
    exact ⟨by rw [HE.out]; rfl, rfl⟩
theorem may_nil (i : Int) (w : World) :
    Calls Tryz.prog 54 #[.pointer none, .int .i64 i] w fun e w' => e = .returned (.int .i64 1) ∧ w' = w := by
  go_enter Tryz.func54, Tryz.ntmps54
  go_wp2
  go_ret
  exact ⟨rfl, rfl⟩
end Go.Proofs.YtcakellhellddaaGreatDoor
namespace Go.Proofs.YtcakellhellddaaGreatDoor
open Go.RowKit
def nul : ByteArray := ⟨#[0]⟩
theorem zs_rep : (⟨(Lib.repeatL nul.data.toList 256).toArray⟩ : ByteArray) = zs := by
  have h : ∀ n, Lib.repeatL [(0 : UInt8)] n = List.replicate n 0 := by
    intro n
    induction n with
    | zero => rfl
    | succ n ih => rw [Lib.repeatL, ih, List.replicate_succ]; rfl
  show (⟨(Lib.repeatL [(0 : UInt8)] 256).toArray⟩ : ByteArray) = _
  rw [h]; rfl
theorem rep_any (w : World) : Calls Tryz.prog 68 #[.string ⟨#[0]⟩, .int .i64 256] w fun e w' => e = .returned (.string zs) ∧ Below w.heap.size w w' := by
  have h := Tryz.strings_Repeat nul 256 w (by decide) (by decide)
  rw [zs_rep] at h
  exact h
theorem at_any (b mb : Nat) (m : DM) (i : Nat) (w : World) (h : DiskAt w b mb m) (hi : i < m.S.length) :
    Calls Tryz.prog 55 #[.pointer (some ⟨b, 0, none⟩), .int .i64 i] w fun e w' => e = .returned (.string (m.at i)) ∧ Below w.heap.size w w' := by
  obtain ⟨hne, hwf, l, f, hb, hm, hs, hl⟩ := h
  have c1 : w.cell? ⟨b, 1, none⟩ = some (.map (some mb)) := hb.cell 1
  rcases hs i hi with ⟨h1, h2⟩ | h1
  · have H1 := Lib.hid h1
    have H2 := Lib.hid h2
    clear hb hl hs h1 h2 hwf hne
    go_enter Tryz.func55, Tryz.ntmps55
    go_wp2_with (first | ((with_reducible refine at_look_ok int_key diskMap_u sector_zero hm (i : Int) ?_ ?_ ?_); exact rfl; exact rfl; rw [H1.out]; dsimp only [Option.getD, Option.isSome]) | (go_at_call 68; refine (rep_any _).mono ?_; rintro e w1 ⟨rfl, hb1⟩))
    go_ret
    exact ⟨by rw [H2.out]; rfl, ((Below.refl _ _).alloc (Nat.le_refl _) _).trans (hb1.mono (by simp))⟩
  · have H1 := Lib.hid h1
    obtain ⟨s, hsx⟩ : ∃ s, s = m.at i := ⟨_, rfl⟩
    rw [← hsx] at H1
    have H2 := Lib.hid hsx
    clear hb hl hs h1 hwf hne hsx
    go_enter Tryz.func55, Tryz.ntmps55
    go_wp2_with (first | ((with_reducible refine at_look_ok int_key diskMap_u sector_zero hm (i : Int) ?_ ?_ ?_); exact rfl; exact rfl; rw [H1.out]; dsimp only [Option.getD, Option.isSome]) | (go_at_call 68; refine (rep_any _).mono ?_; rintro e w1 ⟨rfl, hb1⟩))
    go_ret
    exact ⟨by rw [← H2.out]; rfl, (Below.refl _ _).alloc (Nat.le_refl _) _⟩
theorem may_cases (m : DM) (i : Int) : m.may i = 0 ∨ m.may i = 1 ∨ m.may i = 74 := by
  unfold DM.may; split <;> (try split) <;> simp
theorem read_any (b mb : Nat) (m : DM) (i : Int) (w : World) (h : DiskAt w b mb m) :
    Calls Tryz.prog 35 #[.pointer (some ⟨b, 0, none⟩), .int .i64 i] w fun e w' => e = .returned (.tuple #[.string (m.read i).1, .int .i64 (m.read i).2]) ∧ Below w.heap.size w w' := by
  have HM := Lib.hid (may_any b mb m i w h)
  by_cases hz : m.may i = 0
  · obtain ⟨hd, h0, h1⟩ := DM.good_of_may hz
    obtain ⟨j, rfl⟩ := Int.eq_ofNat_of_zero_le h0
    have HA := Lib.hid (at_any b mb m j w h (by omega))
    have HZ := Lib.hid hz
    have HR : Hid (m.read (j : Int) = (m.at j, 0)) := by refine Lib.hid ?_; unfold DM.read; rw [if_pos hz]; rfl
    clear hz hd h0 h1 h
    go_enter Tryz.func35, Tryz.ntmps35
    go_wp2_with (first | (go_at_call 54; refine HM.out.mono ?_; rintro e w' ⟨rfl, rfl⟩; rw [HZ.out]) | (go_at_call 55; refine HA.out.mono ?_; rintro e w1 ⟨rfl, hb1⟩))
    go_ret2
    exact ⟨by rw [HR.out]; rfl, hb1⟩
  · have hb : (m.may i != 0) = true := by simpa using hz
    have HR : Hid (m.read i = (ByteArray.empty, m.may i)) := by refine Lib.hid ?_; unfold DM.read; rw [if_neg hz]
    clear hz h
    go_enter Tryz.func35, Tryz.ntmps35
    go_wp2_with (first | (go_at_call 54; refine HM.out.mono ?_; rintro e w' ⟨rfl, rfl⟩))
    go_ret2
    exact ⟨by rw [HR.out]; rfl, Below.refl _ _⟩
theorem read_nil (i : Int) (w : World) :
    Calls Tryz.prog 35 #[.pointer none, .int .i64 i] w fun e w' => e = .returned (.tuple #[.string ByteArray.empty, .int .i64 1]) ∧ w' = w := by
  go_enter Tryz.func35, Tryz.ntmps35
  go_wp2_with (first | (go_at_call 54; refine (may_nil i _).mono ?_; rintro e w' ⟨rfl, rfl⟩))
  go_ret2
  exact ⟨rfl, rfl⟩
theorem dead_any (b mb : Nat) (m : DM) (w : World) (h : DiskAt w b mb m) :
    Calls Tryz.prog 24 #[.pointer (some ⟨b, 0, none⟩)] w fun e w' => e = .returned (.bool m.dead) ∧ w' = w := by
  obtain ⟨hne, hwf, l, f, hb, hm, hs, hl⟩ := h
  have c6 : w.cell? ⟨b, 6, none⟩ = some (.bool m.dead) := hb.cell 6
  clear hb hm hs hl hwf hne
  go_enter Tryz.func24, Tryz.ntmps24
  go_wp2
  go_ret
  exact ⟨rfl, rfl⟩
theorem dead_nil (w : World) : Calls Tryz.prog 24 #[.pointer none] w fun e w' => e = .returned (.bool false) ∧ w' = w := by
  go_enter Tryz.func24, Tryz.ntmps24
  go_wp2
  go_ret
  exact ⟨rfl, rfl⟩
theorem size_any (b mb : Nat) (m : DM) (w : World) (h : DiskAt w b mb m) :
    Calls Tryz.prog 34 #[.pointer (some ⟨b, 0, none⟩)] w fun e w' => e = .returned (.int .i64 (m.S.length : Int)) ∧ w' = w := by
  obtain ⟨hne, hwf, l, f, hb, hm, hs, hl⟩ := h
  have c0 : w.cell? ⟨b, 0, none⟩ = some (.int .i64 (m.S.length : Int)) := hb.cell 0
  clear hb hm hs hl hwf hne
  go_enter Tryz.func34, Tryz.ntmps34
  go_wp2
  go_ret
  exact ⟨rfl, rfl⟩
theorem size_nil (w : World) : Calls Tryz.prog 34 #[.pointer none] w fun e w' => e = .returned (.int .i64 0) ∧ w' = w := by
  go_enter Tryz.func34, Tryz.ntmps34
  go_wp2
  go_ret
  exact ⟨rfl, rfl⟩
theorem writes_any (b mb : Nat) (m : DM) (w : World) (h : DiskAt w b mb m) :
    Calls Tryz.prog 25 #[.pointer (some ⟨b, 0, none⟩)] w fun e w' => e = .returned (.int .i64 m.writes) ∧ w' = w := by
  obtain ⟨hne, hwf, l, f, hb, hm, hs, hl⟩ := h
  have c0 : w.cell? ⟨b, 2, none⟩ = some (.int .i64 m.writes) := hb.cell 2
  clear hb hm hs hl hwf hne
  go_enter Tryz.func25, Tryz.ntmps25
  go_wp2
  go_ret
  exact ⟨rfl, rfl⟩
theorem writes_nil (w : World) : Calls Tryz.prog 25 #[.pointer none] w fun e w' => e = .returned (.int .i64 0) ∧ w' = w := by
  go_enter Tryz.func25, Tryz.ntmps25
  go_wp2
  go_ret
  exact ⟨rfl, rfl⟩
/-- Stores into the disk's own block: what the row is behind them. -/
def own2 (b mb : Nat) : Nat → Prop := fun k => k = b ∨ k = mb
theorem start_nil (w : World) : Calls Tryz.prog 17 #[.pointer none] w fun e w' => e = .returned (.tuple #[]) ∧ w' = w := by
  go_enter Tryz.func17, Tryz.ntmps17
  go_wp2
  go_end0
  exact ⟨rfl, rfl⟩
theorem start_any (b mb : Nat) (m : DM) (w : World) (h : DiskAt w b mb m) :
    Calls Tryz.prog 17 #[.pointer (some ⟨b, 0, none⟩)] w fun e w' => e = .returned (.tuple #[]) ∧ DiskAt w' b mb m.start ∧ Only (own2 b mb) w w' := by
  obtain ⟨hne, hwf, l, f, hb, hm, hs, hl⟩ := h
  have c3 : w.cell? ⟨b, 3, none⟩ = some (.bool m.armed) := hb.cell 3
  have c6 : w.cell? ⟨b, 6, none⟩ = some (.bool m.dead) := hb.cell 6
  have f3 := hb.free 3
  have f6 := hb.free 6
  have hb' : Blk ((w.setCell ⟨b, 6, none⟩ (.bool false)).setCell ⟨b, 3, none⟩ (.bool false)) b (diskRow mb l m.start) 63 := (hb.setCell 6 (.bool false)).setCell 3 (.bool false)
  have ho : Only (own2 b mb) w ((w.setCell ⟨b, 6, none⟩ (.bool false)).setCell ⟨b, 3, none⟩ (.bool false)) := ((Only.refl _ _).setCell (fun _ => .inl rfl) _).setCell (fun _ => .inl rfl) _
  have hm' := hm.of_block (w' := (w.setCell ⟨b, 6, none⟩ (.bool false)).setCell ⟨b, 3, none⟩ (.bool false)) ((Below.heap_setCell _ _ _ _ (Ne.symm hne)).trans (Below.heap_setCell _ _ _ _ (Ne.symm hne)))
  have HB := Lib.hid hb'
  have HO := Lib.hid ho
  have HM := Lib.hid hm'
  clear hb hb' ho hm hm'
  go_enter Tryz.func17, Tryz.ntmps17
  go_wp2
  go_end0
  exact ⟨rfl, ⟨hne, DM.start_wf hwf, l, f, HB.out, HM.out, hs, fun h => by cases h⟩, HO.out⟩
end Go.Proofs.YtcakellhellddaaGreatDoor
namespace Go.Proofs.YtcakellhellddaaGreatDoor
open Go.RowKit
theorem DM.at_ne {m m' : DM} {i j : Nat} {x : ByteArray} (hS : m'.S = m.S.set i x) (h : j ≠ i) : m'.at j = m.at j := by
  simp only [DM.at, hS, List.getD_eq_getElem?_getD, List.getElem?_set_ne (Ne.symm h)]
theorem DM.at_eq {m m' : DM} {i : Nat} {x : ByteArray} (hS : m'.S = m.S.set i x) (h : i < m.S.length) : m'.at i = x := by
  simp only [DM.at, hS, List.getD_eq_getElem?_getD, List.getElem?_set_self h, Option.getD_some]
theorem arm_nil (n p : Int) (w : World) : Calls Tryz.prog 15 #[.pointer none, .int .i64 n, .int .i64 p] w fun e w' => e = .returned (.int .i64 1) ∧ w' = w := by
  go_enter Tryz.func15, Tryz.ntmps15
  go_wp2
  go_ret
  exact ⟨rfl, rfl⟩
set_option maxHeartbeats 400000 in
theorem arm_any (b mb : Nat) (m : DM) (n p : Int) (w : World) (h : DiskAt w b mb m) :
    Calls Tryz.prog 15 #[.pointer (some ⟨b, 0, none⟩), .int .i64 n, .int .i64 p] w fun e w' => e = .returned (.int .i64 (m.arm n p).2) ∧ DiskAt w' b mb (m.arm n p).1 ∧ Only (own2 b mb) w w' := by
  by_cases ha : DM.arms n p = true
  · have hx : 0 ≤ n ∧ n ≤ 100000 ∧ 0 ≤ p ∧ p ≤ 256 := by simpa [DM.arms] using ha
    obtain ⟨hx1, hx2, hx3, hx4⟩ := hx
    obtain ⟨q, rfl⟩ := Int.eq_ofNat_of_zero_le hx3
    have hwf' := DM.arm_wf h.wf n (q : Int)
    obtain ⟨hne, hwf, l, f, hb, hm, hs, hl⟩ := h
    have c3 : w.cell? ⟨b, 3, none⟩ = some (.bool m.armed) := hb.cell 3
    have c4 : w.cell? ⟨b, 4, none⟩ = some (.int .i64 l) := hb.cell 4
    have c5 : w.cell? ⟨b, 5, none⟩ = some (.int .i64 (m.part : Int)) := hb.cell 5
    have f3 := hb.free 3
    have f4 := hb.free 4
    have f5 := hb.free 5
    have hr : m.arm n (q : Int) = ({ m with armed := true, left := n, part := q }, 0) := by unfold DM.arm; rw [if_pos ha]; rfl
    rw [hr] at hwf'
    have HR := Lib.hid hr
    have hb' := ((hb.setCell 3 (.bool true)).setCell 4 (.int .i64 n)).setCell 5 (.int .i64 (q : Int))
    have ho : Only (own2 b mb) w (((w.setCell ⟨b, 3, none⟩ (.bool true)).setCell ⟨b, 4, none⟩ (.int .i64 n)).setCell ⟨b, 5, none⟩ (.int .i64 (q : Int))) :=
      (((Only.refl _ _).setCell (fun _ => .inl rfl) _).setCell (fun _ => .inl rfl) _).setCell (fun _ => .inl rfl) _
    have hm' := hm.of_block (w' := ((w.setCell ⟨b, 3, none⟩ (.bool true)).setCell ⟨b, 4, none⟩ (.int .i64 n)).setCell ⟨b, 5, none⟩ (.int .i64 (q : Int))) ((Below.heap_setCell _ _ _ _ (Ne.symm hne)).trans ((Below.heap_setCell _ _ _ _ (Ne.symm hne)).trans (Below.heap_setCell _ _ _ _ (Ne.symm hne))))
    have HB := Lib.hid hb'
    have HO := Lib.hid ho
    have HM := Lib.hid hm'
    clear hb hb' ho hm hm' hr ha
    go_enter Tryz.func15, Tryz.ntmps15
    go_wp2
    go_ret
    exact ⟨by rw [HR.out]; rfl, by rw [HR.out]; exact ⟨hne, hwf', n, f, HB.out, HM.out, hs, fun _ => rfl⟩, HO.out⟩
  · have hr : m.arm n p = (m, 1) := by unfold DM.arm; rw [if_neg ha]
    rw [hr]
    have hx : ¬ (0 ≤ n ∧ n ≤ 100000 ∧ 0 ≤ p ∧ p ≤ 256) := by simpa [DM.arms] using ha
    clear hr ha
    by_cases h1 : n < 0
    · clear hx
      go_enter Tryz.func15, Tryz.ntmps15
      go_wp2
      go_ret
      exact ⟨rfl, h, Only.refl _ _⟩
    · by_cases h2 : 100000 < n
      · clear hx
        go_enter Tryz.func15, Tryz.ntmps15
        go_wp2
        go_ret
        exact ⟨rfl, h, Only.refl _ _⟩
      · by_cases h3 : p < 0
        · clear hx
          go_enter Tryz.func15, Tryz.ntmps15
          go_wp2
          go_ret
          exact ⟨rfl, h, Only.refl _ _⟩
        · have h4 : 256 < p := by omega
          clear hx
          go_enter Tryz.func15, Tryz.ntmps15
          go_wp2
          go_ret
          exact ⟨rfl, h, Only.refl _ _⟩
theorem new_bad (n : Int) (hn : n < 1 ∨ 4096 < n) (w : World) :
    Calls Tryz.prog 6 #[.int .i64 n] w fun e w' => e = .returned (.tuple #[.pointer none, .int .i64 1]) ∧ w' = w := by
  rcases hn with hn | hn
  · go_enter Tryz.func6, Tryz.ntmps6
    go_wp2
    go_ret2
    exact ⟨rfl, rfl⟩
  · go_enter Tryz.func6, Tryz.ntmps6
    go_wp2
    go_ret2
    exact ⟨rfl, rfl⟩
theorem new_any (n : Nat) (h1 : 1 ≤ n) (h2 : n ≤ 4096) (w : World) :
    Calls Tryz.prog 6 #[.int .i64 n] w fun e w' => ∃ b mb, e = .returned (.tuple #[.pointer (some ⟨b, 0, none⟩), .int .i64 0]) ∧ DiskAt w' b mb (dNew n) ∧ Below w.heap.size w w' ∧ w.heap.size ≤ b ∧ w.heap.size ≤ mb := by
  have hmm := @run_makeMap Tryz.prog
  go_enter Tryz.func6, Tryz.ntmps6
  go_wp2
  go_ret2
  refine ⟨w.heap.size + 1, w.heap.size, rfl, ⟨by omega, dNew_wf h1 h2, 0, fun _ => none, ?_, (MapIs.new w _).of_block (Below.heap_alloc _ _ _ (by simp)), ?_, fun h => by cases h⟩, ((Below.refl _ _).alloc (Nat.le_refl _) _).alloc (by simp) _, by omega, Nat.le_refl _⟩
  · have : diskRow w.heap.size 0 (dNew n) = #[.int .i64 n, .map (some w.heap.size), .int .i64 0, .bool false, .int .i64 0, .int .i64 0, .bool false] := by
      simp [diskRow, dNew]
    rw [this]
    exact Blk.new' _ _ _ (by simp)
  · intro i hi
    refine .inl ⟨rfl, ?_⟩
    have hi' : i < n := by simpa [dNew] using hi
    simp [DM.at, dNew, hi']
set_option maxHeartbeats 1000000 in
theorem write_refused (b mb : Nat) (m : DM) (i : Int) (s : ByteArray) (w : World) (h : DiskAt w b mb m) (hz : m.may i ≠ 0 ∨ s.size ≠ 256) (hs : s.size ≤ maxLen) :
    Calls Tryz.prog 21 #[.pointer (some ⟨b, 0, none⟩), .int .i64 i, .string s] w fun e w' => e = .returned (.int .i64 (m.write i s).2) ∧ (m.write i s).1 = m ∧ w' = w := by
  unfold maxLen at hs
  have HM := Lib.hid (may_any b mb m i w h)
  by_cases hm : m.may i = 0
  · have hs2 : s.size ≠ 256 := by rcases hz with hz | hz; exact absurd hm hz; exact hz
    have HR : Hid (m.write i s = (m, 1)) := by refine Lib.hid ?_; unfold DM.write; rw [if_neg (by simpa using hm), if_pos hs2]
    have hb : ((s.size : Int) != 256) = true := by rw [bne_iff_ne]; omega
    have HZ := Lib.hid hm
    clear hz hm h
    go_enter Tryz.func21, Tryz.ntmps21
    go_wp2_with (first | (go_at_call 54; refine HM.out.mono ?_; rintro e w' ⟨rfl, rfl⟩; rw [HZ.out]))
    go_ret
    exact ⟨by rw [HR.out]; rfl, by rw [HR.out], rfl⟩
  · have HR : Hid (m.write i s = (m, m.may i)) := by refine Lib.hid ?_; unfold DM.write; rw [if_pos hm]
    have hb : (m.may i != 0) = true := by simpa using hm
    clear hz hm h
    go_enter Tryz.func21, Tryz.ntmps21
    go_wp2_with (first | (go_at_call 54; refine HM.out.mono ?_; rintro e w' ⟨rfl, rfl⟩))
    go_ret
    exact ⟨by rw [HR.out]; rfl, by rw [HR.out], rfl⟩
set_option maxHeartbeats 1000000 in
theorem write_goes (b mb : Nat) (m : DM) (i : Nat) (s : ByteArray) (w : World) (h : DiskAt w b mb m) (hz : m.may i = 0) (hs : s.size = 256) (hc : m.cuts = false) :
    Calls Tryz.prog 21 #[.pointer (some ⟨b, 0, none⟩), .int .i64 i, .string s] w fun e w' => e = .returned (.int .i64 (m.write i s).2) ∧ DiskAt w' b mb (m.write i s).1 ∧ Only (own2 b mb) w w' := by
  have HM := Lib.hid (may_any b mb m i w h)
  have hwf' := DM.write_wf h.wf i s
  have HR : Hid (m.write i s = ({ m with S := m.S.set i s, left := m.left - 1, writes := wrap64 (m.writes + 1) }, 0)) := by
    refine Lib.hid ?_; unfold DM.write; rw [if_neg (by simpa using hz), if_neg (by simpa using hs), hc]; rfl
  obtain ⟨_, _, hi⟩ := DM.good_of_may hz
  have HI := Lib.hid (show i < m.S.length by omega)
  rw [HR.out] at hwf' ⊢
  obtain ⟨hne, hwf, l, f, hb, hm, hse, hl⟩ := h
  have hb0 : ((s.size : Int) != 256) = false := by rw [hs]; rfl
  have HZ := Lib.hid hz
  have HS := Lib.hid hs
  have c1 : w.cell? ⟨b, 1, none⟩ = some (.map (some mb)) := hb.cell 1
  have c2 : w.cell? ⟨b, 2, none⟩ = some (.int .i64 m.writes) := hb.cell 2
  have c3 : w.cell? ⟨b, 3, none⟩ = some (.bool m.armed) := hb.cell 3
  have c4 : w.cell? ⟨b, 4, none⟩ = some (.int .i64 l) := hb.cell 4
  have f2 := hb.free 2
  have f4 := hb.free 4
  have hcc : m.armed = false ∨ (m.armed = true ∧ (l == 0) = false) := by
    cases ha : m.armed
    · exact .inl rfl
    · refine .inr ⟨rfl, ?_⟩
      have := hl ha
      unfold DM.cuts at hc
      rw [ha] at hc
      simp at hc
      rw [this]; simpa using hc
  have hbd := hwf.left
  have hl2 : m.armed = true → wrap64 (l - 1) = m.left - 1 := fun ha => by
    have h1 := hl ha
    have h2 := hbd ha
    rw [h1]; exact IntWalk.wrap64_in _ (by omega)
  have HL := Lib.hid hl2
  have H0 := Lib.hid hb
  have hm1 := hm.of_block (w' := w.setCell ⟨b, 4, none⟩ (.int .i64 (wrap64 (l - 1)))) (Below.heap_setCell _ _ _ _ (Ne.symm hne))
  have hb1 := Lib.hid (hb.setCell 4 (.int .i64 (wrap64 (l - 1))))
  have ho1 : Only (own2 b mb) w (w.setCell ⟨b, 4, none⟩ (.int .i64 (wrap64 (l - 1)))) := (Only.refl _ _).setCell (fun _ => .inl rfl) _
  have HO := Lib.hid ho1
  have HM1 := Lib.hid hm1
  have fin : ∀ w2, MapIs w2 (fun n : Int => Value.int .i64 n) mb (fun j => if j = (i : Int) then some (.agg #[.string s]) else f j) → Only (· = mb) (w.setCell ⟨b, 4, none⟩ (.int .i64 (wrap64 (l - 1)))) w2 →
      DiskAt (w2.setCell ⟨b, 2, none⟩ (.int .i64 (wrap64 (m.writes + 1)))) b mb { m with S := m.S.set i s, left := m.left - 1, writes := wrap64 (m.writes + 1) } ∧ Only (own2 b mb) w (w2.setCell ⟨b, 2, none⟩ (.int .i64 (wrap64 (m.writes + 1)))) := by
    intro w2 hm2 ho2
    have hb2 := (ho2.blk hb1.out hne).setCell 2 (.int .i64 (wrap64 (m.writes + 1)))
    refine ⟨⟨hne, hwf', wrap64 (l - 1), _, ?_, hm2.of_block (Below.heap_setCell _ _ _ _ (Ne.symm hne)), ?_, fun ha => HL.out ha⟩, ?_⟩
    · have e : ((diskRow mb l m).setIfInBounds 4 (.int .i64 (wrap64 (l - 1)))).setIfInBounds 2 (.int .i64 (wrap64 (m.writes + 1))) = diskRow mb (wrap64 (l - 1)) { m with S := m.S.set i s, left := m.left - 1, writes := wrap64 (m.writes + 1) } := by
        simp [diskRow]
      rw [← e]; exact hb2
    · intro j hj
      have hj' : j < m.S.length := by simpa using hj
      by_cases hji : j = i
      · subst hji
        refine .inr ?_
        simp [DM.at, hj']
      · have hji' : ¬ ((j : Int) = (i : Int)) := by omega
        have e1 : DM.at { m with S := m.S.set i s, left := m.left - 1, writes := wrap64 (m.writes + 1) } j = m.at j := DM.at_ne rfl hji
        rw [e1]
        simp only [hji', if_false]
        exact hse j hj'
    · exact (HO.out.trans (ho2.mono (fun _ _ h => .inr h))).setCell (fun _ => .inl rfl) _
  have FIN := Lib.hid fin
  have c2' : ∀ w2, Only (· = mb) (w.setCell ⟨b, 4, none⟩ (.int .i64 (wrap64 (l - 1)))) w2 → w2.cell? ⟨b, 2, none⟩ = some (.int .i64 m.writes) ∧ w2.frozen? ⟨b, 2, none⟩ = false ∧ w2.cell? ⟨b, 1, none⟩ = some (.map (some mb)) := fun w2 ho2 => by
    have hb2 := ho2.blk hb1.out hne
    exact ⟨hb2.cell 2, hb2.free 2, hb2.cell 1⟩
  have C2 := Lib.hid c2'
  clear hi hz hs hc hl hl2 hm1 hb1 ho1 fin c2' hb hm hse hwf hwf' hbd
  rcases hcc with ha | ⟨ha, hl0⟩
  · rw [ha] at c3
    clear ha
    go_enter Tryz.func21, Tryz.ntmps21
    go_wp2_with (first | (go_at_call 54; refine HM.out.mono ?_; rintro e w' ⟨rfl, rfl⟩; rw [HZ.out]) | ((with_reducible refine at_mapPut int_key diskMap_u HM1.out (i : Int) (.agg #[.string s]) ?_ ?_ ?_ ?_); exact rfl; exact rfl; exact rfl; intro w2 hm2 ho2 hz2; obtain ⟨d1, d2, d3⟩ := C2.out w2 ho2))
    go_ret
    exact ⟨rfl, FIN.out _ hm2 ho2⟩
  · rw [ha] at c3
    clear ha
    go_enter Tryz.func21, Tryz.ntmps21
    go_wp2_with (first | (go_at_call 54; refine HM.out.mono ?_; rintro e w' ⟨rfl, rfl⟩; rw [HZ.out]) | ((with_reducible refine at_mapPut int_key diskMap_u HM1.out (i : Int) (.agg #[.string s]) ?_ ?_ ?_ ?_); exact rfl; exact rfl; exact rfl; intro w2 hm2 ho2 hz2; obtain ⟨d1, d2, d3⟩ := C2.out w2 ho2))
    go_ret
    exact ⟨rfl, FIN.out _ hm2 ho2⟩
set_option maxHeartbeats 2000000 in
set_option maxRecDepth 100000 in
theorem write_cut (b mb : Nat) (m : DM) (i : Nat) (s : ByteArray) (w : World) (h : DiskAt w b mb m) (hz : m.may i = 0) (hs : s.size = 256) (hc : m.cuts = true) :
    Calls Tryz.prog 21 #[.pointer (some ⟨b, 0, none⟩), .int .i64 i, .string s] w fun e w' => e = .returned (.int .i64 (m.write i s).2) ∧ DiskAt w' b mb (m.write i s).1 ∧ Only (own2 b mb) w w' := by
  have HM := Lib.hid (may_any b mb m i w h)
  have hwf' := DM.write_wf h.wf i s
  have HR : Hid (m.write i s = ({ m with S := m.S.set i (torn m.part s (m.at i)), dead := true, armed := false }, 74)) := by
    refine Lib.hid ?_; unfold DM.write; rw [if_neg (by simpa using hz), if_neg (by simpa using hs), hc]; rfl
  obtain ⟨_, _, hi⟩ := DM.good_of_may hz
  have hi2 : i < m.S.length := by omega
  have HI := Lib.hid hi2
  have HA := Lib.hid (fun w1 (hw : DiskAt w1 b mb m) => at_any b mb m i w1 hw hi2)
  have HD := Lib.hid h
  rw [HR.out] at hwf' ⊢
  obtain ⟨hne, hwf, l, f, hb, hm, hse, hl⟩ := h
  have hat := Lib.hid (DM.at_size hwf hi2)
  have hpart := hwf.part
  have hb0 : ((s.size : Int) != 256) = false := by rw [hs]; rfl
  have hl0 : (l == 0) = true := by
    unfold DM.cuts at hc
    simp at hc
    rw [hl hc.1, hc.2]; rfl
  have ha : m.armed = true := by unfold DM.cuts at hc; simp at hc; exact hc.1
  have HZ := Lib.hid hz
  have HS := Lib.hid hs
  have c1 : w.cell? ⟨b, 1, none⟩ = some (.map (some mb)) := hb.cell 1
  have c3 : w.cell? ⟨b, 3, none⟩ = some (.bool true) := (hb.cell 3).trans (by rw [← ha]; rfl)
  have c4 : w.cell? ⟨b, 4, none⟩ = some (.int .i64 l) := hb.cell 4
  have c5 : w.cell? ⟨b, 5, none⟩ = some (.int .i64 (m.part : Int)) := hb.cell 5
  obtain ⟨p, hp⟩ : ∃ p, p = m.part := ⟨_, rfl⟩
  rw [← hp] at c5 hpart
  have HP := Lib.hid hp
  have hps : p ≤ s.size := by omega
  have HB := Lib.hid hb
  have HMM := Lib.hid hm
  have HSE := Lib.hid hse
  have HW := Lib.hid hwf'
  clear hz hs hc ha hl hp hb hm hse hwf hwf' hi hi2
  go_enter Tryz.func21, Tryz.ntmps21
  go_wp2_with (first | (go_at_call 54; refine HM.out.mono ?_; rintro e wq ⟨rfl, hwq⟩; have hwq := hwq.symm; subst hwq; rw [HZ.out]))
  refine wp_region_held_drew (S := fun w1 => w1.cell? ⟨b, 1, none⟩ = some (.map (some mb)) ∧ w1.cell? ⟨b, 5, none⟩ = some (.int .i64 (p : Int))) (by kernel_rfl) ?_ (fun hHeld => ?_)
  · exact ⟨c1, c5⟩
  refine take_op 0 (some 28) (v := ?_) rfl rfl (by kernel_rfl) (by kernel_rfl) (by kernel_rfl) (fun _ _ _ h => h) (Or.inl ⟨by rfl, ?_⟩) (by assumption) ?_
  rotate_left
  · intro w_ hSw_; (try dsimp only at hSw_); go_simp; (try with_reducible rfl)
  try simp only [Act.put, List.setIfInBounds_toArray, List.set_cons_zero, List.set_cons_succ]
  refine take_op 1 (some 29) (v := ?_) rfl rfl (by kernel_rfl) (by kernel_rfl) (by kernel_rfl) (fun _ _ _ h => h) (Or.inl ⟨by rfl, ?_⟩) (by assumption) ?_
  rotate_left
  · intro w_ hSw_; (try dsimp only at hSw_); go_simp; (try with_reducible rfl)
  try simp only [Act.put, List.setIfInBounds_toArray, List.set_cons_zero, List.set_cons_succ]
  refine take_op 2 (some 30) (v := ?_) rfl rfl (by kernel_rfl) (by kernel_rfl) (by kernel_rfl) (fun _ _ _ h => h) (Or.inl ⟨by rfl, ?_⟩) (by assumption) ?_
  rotate_left
  · intro w_ hSw_; (try dsimp only at hSw_); go_simp; (try with_reducible rfl)
  try simp only [Act.put, List.setIfInBounds_toArray, List.set_cons_zero, List.set_cons_succ]
  refine take_op 3 (some 31) (v := ?_) rfl rfl (by kernel_rfl) (by kernel_rfl) (by kernel_rfl) (fun _ _ _ h => h) (Or.inl ⟨by rfl, ?_⟩) (by assumption) ?_
  rotate_left
  · intro w_ hSw_; (try dsimp only at hSw_); go_simp; (try with_reducible rfl)
  try simp only [Act.put, List.setIfInBounds_toArray, List.set_cons_zero, List.set_cons_succ]
  refine take_op 4 (some 32) (v := ?_) rfl rfl (by kernel_rfl) (by kernel_rfl) (by kernel_rfl) (fun _ _ _ h => h) (Or.inl ⟨by rfl, ?_⟩) (by assumption) ?_
  rotate_left
  · intro w_ hSw_; (try dsimp only at hSw_); go_simp; (try with_reducible rfl)
  try simp only [Act.put, List.setIfInBounds_toArray, List.set_cons_zero, List.set_cons_succ]
  refine take_op 5 (some 33) (v := ?_) rfl rfl (by kernel_rfl) (by kernel_rfl) (by kernel_rfl) (fun _ _ _ h => h) (Or.inl ⟨by rfl, ?_⟩) (by assumption) ?_
  rotate_left
  · intro w_ hSw_; (try dsimp only at hSw_); go_simp; (try with_reducible rfl)
  try simp only [Act.put, List.setIfInBounds_toArray, List.set_cons_zero, List.set_cons_succ]
  refine take_op 6 (some 34) (v := ?_) rfl rfl (by kernel_rfl) (by kernel_rfl) (by kernel_rfl) (fun _ _ _ h => h) (Or.inl ⟨by rfl, ?_⟩) (by assumption) ?_
  rotate_left
  · intro w_ hSw_; (try dsimp only at hSw_); go_simp; (try with_reducible rfl)
  try simp only [Act.put, List.setIfInBounds_toArray, List.set_cons_zero, List.set_cons_succ]
  refine take_op 7 (some 35) (v := ?_) rfl rfl (by kernel_rfl) (by kernel_rfl) (by kernel_rfl) (fun _ _ _ h => h) (Or.inl ⟨by rfl, ?_⟩) (by assumption) ?_
  rotate_left
  · intro w_ hSw_; (try dsimp only at hSw_); go_simp; (try with_reducible rfl)
  try simp only [Act.put, List.setIfInBounds_toArray, List.set_cons_zero, List.set_cons_succ]
  refine take_op 8 (some 36) (v := ?_) rfl rfl (by kernel_rfl) (by kernel_rfl) (by kernel_rfl) (fun _ _ _ h => h) (Or.inl ⟨by rfl, ?_⟩) (by assumption) ?_
  rotate_left
  · intro w_ hSw_; (try dsimp only at hSw_); go_simp; (try with_reducible rfl)
  try simp only [Act.put, List.setIfInBounds_toArray, List.set_cons_zero, List.set_cons_succ]
  refine take_op 9 (some 37) (v := ?_) rfl rfl (by kernel_rfl) (by kernel_rfl) (by kernel_rfl) (fun _ _ _ h => h) (Or.inl ⟨by rfl, ?_⟩) (by assumption) ?_
  rotate_left
  · intro w_ hSw_; (try dsimp only at hSw_); go_simp; (try with_reducible rfl)
  try simp only [Act.put, List.setIfInBounds_toArray, List.set_cons_zero, List.set_cons_succ]
  refine take_op 10 (some 38) (v := ?_) rfl rfl (by kernel_rfl) (by kernel_rfl) (by kernel_rfl) (fun _ _ _ h => h) (Or.inl ⟨by rfl, ?_⟩) (by assumption) ?_
  rotate_left
  · intro w_ hSw_; (try dsimp only at hSw_); go_simp; (try with_reducible rfl)
  try simp only [Act.put, List.setIfInBounds_toArray, List.set_cons_zero, List.set_cons_succ]
  refine take_op 11 (some 39) (v := ?_) rfl rfl (by kernel_rfl) (by kernel_rfl) (by kernel_rfl) (fun _ _ _ h => h) (Or.inl ⟨by rfl, ?_⟩) (by assumption) ?_
  rotate_left
  · intro w_ hSw_; (try dsimp only at hSw_); go_simp; (try with_reducible rfl)
  try simp only [Act.put, List.setIfInBounds_toArray, List.set_cons_zero, List.set_cons_succ]
  refine take_op 12 (some 40) (v := ?_) rfl rfl (by kernel_rfl) (by kernel_rfl) (by kernel_rfl) (fun _ _ _ h => h) (Or.inl ⟨by rfl, ?_⟩) (by assumption) ?_
  rotate_left
  · intro w_ hSw_; (try dsimp only at hSw_); go_simp; (try with_reducible rfl)
  try simp only [Act.put, List.setIfInBounds_toArray, List.set_cons_zero, List.set_cons_succ]
  refine take_op 14 (some 42) (v := ?_) rfl rfl (by kernel_rfl) (by kernel_rfl) (by kernel_rfl) (fun _ _ _ h => h) (Or.inl ⟨by rfl, ?_⟩) (by assumption) ?_
  rotate_left
  · intro w_ hSw_; (try dsimp only at hSw_); go_simp; (try with_reducible rfl)
  try simp only [Act.put, List.setIfInBounds_toArray, List.set_cons_zero, List.set_cons_succ]
  refine take_op 15 (some 43) (v := ?_) rfl rfl (by kernel_rfl) (by kernel_rfl) (by kernel_rfl) (fun _ _ _ h => h) (Or.inl ⟨by rfl, ?_⟩) (by assumption) ?_
  rotate_left
  · intro w_ hSw_; (try dsimp only at hSw_); go_simp; (try with_reducible rfl)
  try simp only [Act.put, List.setIfInBounds_toArray, List.set_cons_zero, List.set_cons_succ]
  refine take_op 16 (some 44) (v := ?_) rfl rfl (by kernel_rfl) (by kernel_rfl) (by kernel_rfl) (fun _ _ _ h => h) (Or.inl ⟨by rfl, ?_⟩) (by assumption) ?_
  rotate_left
  · intro w_ hSw_; (try dsimp only at hSw_); go_simp; (try with_reducible rfl)
  try simp only [Act.put, List.setIfInBounds_toArray, List.set_cons_zero, List.set_cons_succ]
  refine take_op 17 (some 45) (v := ?_) rfl rfl (by kernel_rfl) (by kernel_rfl) (by kernel_rfl) (fun _ _ _ h => h) (Or.inl ⟨by rfl, ?_⟩) (by assumption) ?_
  rotate_left
  · intro w_ hSw_; (try dsimp only at hSw_); go_simp; (try with_reducible rfl)
  try simp only [Act.put, List.setIfInBounds_toArray, List.set_cons_zero, List.set_cons_succ]
  refine go_op 13 rfl (by kernel_rfl) (fun K_ hK_ => ?_)
  go_simp
  refine (HA.out _ (HD.out.only ((Only.refl (fun _ => False) _).drew) (fun h => h) (fun h => h))).mono ?_
  rintro e w1 ⟨rfl, hbw⟩
  have ho0 : Only (fun _ => False) w w1 := ((Only.refl _ w).drew).trans (Only.of_below hbw)
  have hd1 : DiskAt w1 b mb m := HD.out.only ho0 (fun h => h) (fun h => h)
  obtain ⟨_, _, l1, f1, hb1, hm1, hse1, _⟩ := hd1
  have d1 : w1.cell? ⟨b, 1, none⟩ = some (.map (some mb)) := hb1.cell 1
  have d5 : w1.cell? ⟨b, 5, none⟩ = some (.int .i64 (p : Int)) := (hb1.cell 5).trans (by rw [HP.out]; rfl)
  have HO0 := Lib.hid ho0
  have HB1 := Lib.hid hb1
  have HM1 := Lib.hid hm1
  have HS1 := Lib.hid hse1
  clear hb1 hm1 hse1 hbw ho0
  refine hK_.out _ _ ?_ (fun hHeld_ => ?_)
  · exact ⟨d1, d5⟩
  have hpat : p ≤ (m.at i).size := by rw [hat.out]; exact hpart
  have hszn : ¬ 9223372036854775807 < (m.at i).size := by rw [hat.out]; omega
  refine take_op 18 (some 46) (v := ?_) rfl rfl (by kernel_rfl) (by kernel_rfl) (by kernel_rfl) (fun _ _ _ h => h) (Or.inl ⟨by rfl, ?_⟩) (by assumption) ?_
  rotate_left
  · intro w_ hSw_; (try dsimp only at hSw_); go_simp; (try with_reducible rfl)
  try simp only [Act.put, List.setIfInBounds_toArray, List.set_cons_zero, List.set_cons_succ]
  refine take_op 19 (some 47) (v := ?_) rfl rfl (by kernel_rfl) (by kernel_rfl) (by kernel_rfl) (fun _ _ _ h => h) (Or.inl ⟨by rfl, ?_⟩) (by assumption) ?_
  rotate_left
  · intro w_ hSw_; (try dsimp only at hSw_); go_simp; (try with_reducible rfl)
  try simp only [Act.put, List.setIfInBounds_toArray, List.set_cons_zero, List.set_cons_succ]
  refine take_op 20 (some 48) (v := ?_) rfl rfl (by kernel_rfl) (by kernel_rfl) (by kernel_rfl) (fun _ _ _ h => h) (Or.inl ⟨by rfl, ?_⟩) (by assumption) ?_
  rotate_left
  · intro w_ hSw_; (try dsimp only at hSw_); go_simp; (try with_reducible rfl)
  try simp only [Act.put, List.setIfInBounds_toArray, List.set_cons_zero, List.set_cons_succ]
  refine go_op 21 rfl (by kernel_rfl) (fun K_ hK_ => ?_)
  rw [if_pos (by rfl)]
  refine wp_mapPut int_key diskMap_u HM1.out (i : Int) (.agg #[.string (s.extract 0 p ++ (m.at i).extract p (m.at i).size)]) rfl rfl rfl ?_
  intro w2 hm2 ho2 hz2
  have hbb := ho2.blk HB1.out hne
  have e1 : w2.cell? ⟨b, 1, none⟩ = some (.map (some mb)) := hbb.cell 1
  have e5 : w2.cell? ⟨b, 5, none⟩ = some (.int .i64 (p : Int)) := (hbb.cell 5).trans (by rw [HP.out]; rfl)
  have e3 : w2.cell? ⟨b, 3, none⟩ = some (.bool m.armed) := hbb.cell 3
  have e6 : w2.cell? ⟨b, 6, none⟩ = some (.bool m.dead) := hbb.cell 6
  have g3 := hbb.free 3
  have g6 := hbb.free 6
  have HBB := Lib.hid hbb
  have HM2 := Lib.hid hm2
  have HO2 := Lib.hid ho2
  clear hbb hm2 ho2
  refine hK_.out _ _ ?_ (fun hHeld_ => ?_)
  · exact ⟨e1, e5⟩
  refine wpAnyH_done (by kernel_rfl) ?_ _
  clear hHeld hHeld_ c1 c3 c4 c5 d1 d5
  go_wp2
  go_ret
  have hwr : (m.write (i : Int) s).1.S = m.S.set i (torn m.part s (m.at i)) := by rw [HR.out]
  have hb3 := (HBB.out.setCell 6 (.bool true)).setCell 3 (.bool false)
  have e : ((diskRow mb l1 m).setIfInBounds 6 (.bool true)).setIfInBounds 3 (.bool false) = diskRow mb l1 { m with S := m.S.set i (torn m.part s (m.at i)), dead := true, armed := false } := by
    simp [diskRow]
  rw [e] at hb3
  refine ⟨rfl, ⟨hne, HW.out, l1, _, hb3, HM2.out.of_block ((Below.heap_setCell _ _ _ _ (Ne.symm hne)).trans (Below.heap_setCell _ _ _ _ (Ne.symm hne))), ?_, fun h => by cases h⟩, ?_⟩
  · intro j hj
    have hj' : j < m.S.length := by simpa using hj
    by_cases hji : j = i
    · subst hji
      refine .inr ?_
      have e2 : DM.at { m with S := m.S.set j (torn m.part s (m.at j)), dead := true, armed := false } j = torn m.part s (m.at j) := DM.at_eq rfl hj'
      rw [e2]
      simp only [if_true, torn, HP.out]
    · have hji' : ¬ ((j : Int) = (i : Int)) := by omega
      have e1 : DM.at { m with S := m.S.set i (torn m.part s (m.at i)), dead := true, armed := false } j = m.at j := DM.at_ne rfl hji
      rw [e1]
      simp only [hji', if_false]
      exact HS1.out j hj'
  · exact (((HO0.out.mono (fun _ _ h => h.elim)).trans (HO2.out.mono (fun _ _ h => .inr h))).setCell (fun _ => .inl rfl) _).setCell (fun _ => .inl rfl) _
/-- A write, whatever becomes of it. -/
theorem write_any (b mb : Nat) (m : DM) (i : Int) (s : ByteArray) (w : World) (h : DiskAt w b mb m) (hs : s.size ≤ maxLen) :
    Calls Tryz.prog 21 #[.pointer (some ⟨b, 0, none⟩), .int .i64 i, .string s] w fun e w' => e = .returned (.int .i64 (m.write i s).2) ∧ DiskAt w' b mb (m.write i s).1 ∧ Only (own2 b mb) w w' := by
  by_cases hz : m.may i = 0
  · by_cases h2 : s.size = 256
    · obtain ⟨_, h0, _⟩ := DM.good_of_may hz
      obtain ⟨j, rfl⟩ := Int.eq_ofNat_of_zero_le h0
      cases hc : m.cuts
      · exact write_goes b mb m j s w h hz h2 hc
      · exact write_cut b mb m j s w h hz h2 hc
    · refine (write_refused b mb m i s w h (.inr h2) hs).mono ?_
      rintro e w' ⟨he, h1, rfl⟩
      exact ⟨he, by rw [h1]; exact h, Only.refl _ _⟩
  · refine (write_refused b mb m i s w h (.inl hz) hs).mono ?_
    rintro e w' ⟨he, h1, rfl⟩
    exact ⟨he, by rw [h1]; exact h, Only.refl _ _⟩
theorem write_nil (i : Int) (s : ByteArray) (w : World) :
    Calls Tryz.prog 21 #[.pointer none, .int .i64 i, .string s] w fun e w' => e = .returned (.int .i64 1) ∧ w' = w := by
  go_enter Tryz.func21, Tryz.ntmps21
  go_wp2_with (go_at_call 54; refine (may_nil i _).mono ?_; rintro e w' ⟨rfl, rfl⟩)
  go_ret
  exact ⟨rfl, rfl⟩
end Go.Proofs.YtcakellhellddaaGreatDoor
