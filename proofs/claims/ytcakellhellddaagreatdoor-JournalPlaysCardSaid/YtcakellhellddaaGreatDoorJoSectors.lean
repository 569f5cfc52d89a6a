import Derived.Test.YtcakellhellddaaGreatDoorJoFormat
set_option linter.unusedSimpArgs false
set_option linter.unusedVariables false
namespace Go.Proofs.YtcakellhellddaaGreatDoor
open Go.RowKit
/-- A disk's sectors from a place on. -/
def secsM (m : DM) (at_ n : Nat) : List ByteArray := (List.range n).map fun j => m.at (at_ + j)
theorem secsM_succ (m : DM) (at_ n : Nat) : secsM m at_ (n + 1) = secsM m at_ n ++ [m.at (at_ + n)] := by
  unfold secsM; rw [List.range_succ, List.map_append]; rfl
def SectorsPost (m : DM) (at_ n : Nat) (w : World) (e : Ending) (w' : World) : Prop :=
  Below w.heap.size w w' ∧
  if m.dead then e = .returned (.tuple #[.slice none 0 0, .int .i64 74])
  else ∃ v, e = .returned (.tuple #[v, .int .i64 0]) ∧ w'.ownsRow w.heap.size 9 1 v n ((secsM m at_ n).map Value.string)
set_option maxRecDepth 100000 in
set_option maxHeartbeats 2000000 in
theorem sectors_any (b mb : Nat) (m : DM) (at_ n : Nat) (hn : 0 < n) (hr : at_ + n ≤ m.S.length) (w : World) (h : DiskAt w b mb m) :
    Calls Tryz.prog 65 #[.pointer (some ⟨b, 0, none⟩), .int .i64 (at_ : Int), .int .i64 (n : Int)] w (SectorsPost m at_ n w) := by
  have hwf := h.wf
  have hlen := hwf.len
  have HR := Lib.hid hr
  have HD := Lib.hid h
  obtain ⟨N, hN⟩ : ∃ N, N = m.S.length := ⟨_, rfl⟩
  rw [← hN] at hlen hr
  have HN := Lib.hid hN
  clear hN h hwf
  go_enter Tryz.func65, Tryz.ntmps65
  go_wp2_with fail
  go_loopw [8, 13] (fun y x wr => ∃ i : Nat, i ≤ n ∧ x = .int .i64 i ∧ Below w.heap.size w wr ∧ (0 < i → m.dead = false) ∧ wr.ownsRow w.heap.size 9 1 y i ((secsM m at_ i).map Value.string)) (fun _ x _ => n - (intOf x).toNat)
  case atStart => exact ⟨0, Nat.zero_le _, rfl, Below.refl _ _, fun h => by omega, ⟨rfl, .inl ⟨rfl, rfl⟩⟩⟩
  case round =>
    obtain ⟨i, hi, rfl, hB, hdd, hO⟩ := hrel
    have HB := Lib.hid hB
    have HO := Lib.hid hO
    have HDR := Lib.hid (HD.out.only (Only.of_below (S := fun _ => False) hB) (fun h => h) (fun h => h))
    have HDD := Lib.hid hdd
    clear hB hdd hO
    by_cases hlt : i < n
    · obtain ⟨p, hp⟩ : ∃ p, p = at_ + i := ⟨_, rfl⟩
      have hpl : p < N := by omega
      have wp : IntKind.i64.wrap ((at_ : Int) + (i : Int)) = (p : Int) := by rw [IntKind.wrap_i64]; omega
      have HP := Lib.hid hp
      clear hp
      go_wp2_with fail
      refine (read_any b mb m (p : Int) _ HDR.out).mono ?_
      rintro e w4 ⟨rfl, hb4⟩
      have HB4 := Lib.hid (HB.out.trans (hb4.mono HB.out.size))
      have HO4 := Lib.hid (owns_below HO.out hb4 (Nat.le_refl _))
      clear hb4
      cases hde : m.dead
      · have hrd : m.read (p : Int) = (m.at p, 0) := by
          unfold DM.read DM.may DM.good
          rw [hde, ← HN.out]
          simp [hpl]
        rw [hrd]
        have HDE := Lib.hid hde
        clear hrd hde
        obtain ⟨x, hx⟩ : ∃ x, x = m.at p := ⟨_, rfl⟩
        rw [← hx]
        have HX := Lib.hid hx
        clear hx
        dsimp only
        obtain ⟨w5, hw5⟩ : ∃ w5, w5 = w4.alloc (.cells #[.string x] 9) := ⟨_, rfl⟩
        have hb5 : Below w4.heap.size w4 w5 := by rw [hw5]; exact (Below.refl _ w4).alloc (Nat.le_refl _) _
        have c5 : w5.cell? ⟨w4.heap.size, 0, none⟩ = some (.string x) := by rw [hw5]; exact (Blk.new w4 #[.string x] 9).cell 0
        have hl5 : w4.heap.size < w5.heap.size := by rw [hw5]; exact (Blk.new w4 #[.string x] 9).lt
        have HB5 := Lib.hid (HB4.out.trans (hb5.mono HB4.out.size))
        have HO5 := Lib.hid (owns_below HO4.out hb5 (Nat.le_refl _))
        have hsrc : Hid (0 < [x].length → ∃ b o, some (⟨w4.heap.size, 0, none⟩ : Addr) = some ⟨b, o, none⟩ ∧ b < w5.heap.size ∧ ∀ (j : Nat) y, [x][j]? = some y → w5.cell? ⟨b, o + j, none⟩ = some (.string y)) := Lib.hid (fun _ => ⟨_, 0, rfl, hl5, fun j y hj => by
          cases j with
          | zero => obtain rfl := Option.some.inj hj; exact c5
          | succ j => simp at hj⟩)
        clear hb5 c5 hl5
        go_wp2_with (first | ((with_reducible refine at_appStrs w.heap.size u8 i (secsM m at_ i) [x] (some ⟨w4.heap.size, 0, none⟩) 1 1 rfl (hw5 ▸ HO5.out) (hw5 ▸ hsrc.out) ?_ (hw5 ▸ HB5.out.size) ?_ ?_ ?_); omega; exact rfl; exact rfl; intro v6 w6 ho6 hg6 hv6) | fail)
        have hbl := owns_block HO5.out
        rw [← hw5] at hg6
        refine ⟨⟨i + 1, by omega, by go_num, HB5.out.trans (below_grown hg6 HB5.out.size (fun k hk => by have := hbl k hk; omega)), fun _ => HDE.out, ?_⟩, ?_⟩
        · rw [secsM_succ, ← HP.out, ← HX.out]; exact ho6
        · simp [intOf]; omega
      · have hrd : (m.read (p : Int)).2 = 74 := by
          unfold DM.read DM.may
          rw [hde]; rfl
        rw [hrd]
        have HDE := Lib.hid hde
        clear hrd hde
        go_wp2_with fail
        go_ret2
        exact ⟨HB4.out, by rw [HDE.out]; rfl⟩
    · have hin : i = n := by omega
      have HDF := Lib.hid (HDD.out (by omega))
      subst hin
      go_wp2_with fail
      go_ret2
      refine ⟨HB.out, ?_⟩
      rw [HDF.out]
      exact ⟨_, rfl, HO.out⟩
end Go.Proofs.YtcakellhellddaaGreatDoor
