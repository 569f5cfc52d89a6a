import Derived.Test.YtnplcjcbojjecaaDoorShelf
import Derived.Test.YtnplcjcbojjecaaDoorDiskPlain
import Derived.Test.YtnplcjcbojjecaaDoorMp
import Derived.Deep.RegionHeld3
set_option linter.unusedSimpArgs false
set_option linter.unusedVariables false
namespace Go.Proofs.YtnplcjcbojjecaaDoor
open Go.RowKit
theorem diskMap_u : Tryd.prog.underlying 87 = some (.map 3 146) := by kernel_rfl
theorem int_key : MKey Tryd.prog 3 (fun n : Int => Value.int .i64 n) := MKey.int (by kernel_rfl)
theorem sector_zero (w : World) : (zeroValue 146).run Tryd.prog w = .ok (.agg #[.string ByteArray.empty]) w := by kernel_rfl
/-- What lies in a disk's own block. -/
def diskRow (mb : Nat) (l : Int) (m : DM) : Array Value :=
  #[.int .i64 (m.S.length : Int), .map (some mb), .int .i64 m.writes, .bool m.armed, .int .i64 l, .int .i64 (m.part : Int), .bool m.dead]
/-- The map of the sectors that were written. -/
def secs (m : DM) (f : Int → Option Value) : Prop := ∀ i : Nat, i < m.S.length → (f i = none ∧ m.at i = zs) ∨ f i = some (.agg #[.string (m.at i)])
/-- A disk: its block b, its map mb. -/
structure DiskAt (w : World) (b mb : Nat) (m : DM) : Prop where
  ne : b ≠ mb
  wf : m.wf
  at_ : ∃ l f, Blk w b (diskRow mb l m) 89 ∧ MapIs w (fun n : Int => Value.int .i64 n) mb f ∧ secs m f ∧ (m.armed = true → l = m.left)
theorem DiskAt.only {S : Nat → Prop} {w w' : World} {b mb : Nat} {m : DM} (h : DiskAt w b mb m) (ho : Only S w w') (h1 : ¬ S b) (h2 : ¬ S mb) : DiskAt w' b mb m := by
  obtain ⟨hne, hwf, l, f, hb, hm, hs, hl⟩ := h
  exact ⟨hne, hwf, l, f, ho.blk hb h1, hm.only ho h2, hs, hl⟩
theorem DiskAt.lt {w : World} {b mb : Nat} {m : DM} (h : DiskAt w b mb m) : b < w.heap.size ∧ mb < w.heap.size := by
  obtain ⟨hne, hwf, l, f, hb, hm, hs, hl⟩ := h
  exact ⟨hb.lt, hm.lt⟩
theorem may_any (b mb : Nat) (m : DM) (i : Int) (w : World) (h : DiskAt w b mb m) :
    Calls Tryd.prog 84 #[.pointer (some ⟨b, 0, none⟩), .int .i64 i] w fun e w' => e = .returned (.int .i64 (m.may i)) ∧ w' = w := by
  obtain ⟨hne, hwf, l, f, hb, hm, hs, hl⟩ := h
  have hlen := hwf.len
  have c0 : w.cell? ⟨b, 0, none⟩ = some (.int .i64 (m.S.length : Int)) := hb.cell 0
  have c6 : w.cell? ⟨b, 6, none⟩ = some (.bool m.dead) := hb.cell 6
  obtain ⟨n, hn⟩ : ∃ n, n = m.S.length := ⟨_, rfl⟩
  rw [← hn] at c0
  have HN := Lib.hid hn
  clear hb hm hs hl hwf
  cases hd : m.dead
  · rw [hd] at c6
    have HD := Lib.hid hd; clear hd
    by_cases h0 : 0 ≤ i
    · by_cases h1 : i < n
      · have HE : Hid (m.may i = 0) := by refine Lib.hid ?_; unfold DM.may DM.good; rw [HD.out, ← HN.out]; simp [h0, h1]
        clear hn
        go_enter Tryd.func84, Tryd.ntmps84
        go_wp2
        go_ret
        exact ⟨by rw [HE.out]; rfl, rfl⟩
      · have HE : Hid (m.may i = 1) := by refine Lib.hid ?_; unfold DM.may DM.good; rw [HD.out, ← HN.out]; simp [h1]
        clear hn
        go_enter Tryd.func84, Tryd.ntmps84
        go_wp2
        go_ret
        exact ⟨by rw [HE.out]; rfl, rfl⟩
    · have HE : Hid (m.may i = 1) := by refine Lib.hid ?_; unfold DM.may DM.good; rw [HD.out, ← HN.out]; simp [h0]
      clear hn
      go_enter Tryd.func84, Tryd.ntmps84
      go_wp2
      go_ret
      exact ⟨by rw [HE.out]; rfl, rfl⟩
  · rw [hd] at c6
    have HE : Hid (m.may i = 74) := by refine Lib.hid ?_; unfold DM.may; rw [hd]; rfl
    clear hn hd
    go_enter Tryd.func84, Tryd.ntmps84
    go_wp2
    go_ret
    exact ⟨by rw [HE.out]; rfl, rfl⟩
theorem may_nil (i : Int) (w : World) :
    Calls Tryd.prog 84 #[.pointer none, .int .i64 i] w fun e w' => e = .returned (.int .i64 1) ∧ w' = w := by
  go_enter Tryd.func84, Tryd.ntmps84
  go_wp2
  go_ret
  exact ⟨rfl, rfl⟩
end Go.Proofs.YtnplcjcbojjecaaDoor
