import Derived.Test.YtcakellhellddaaGreatDoorJoLaw
import Derived.Test.YtcakellhellddaaGreatDoorJoApp
import Derived.Test.YtcakellhellddaaGreatDoorJoOpen2
import Derived.Test.YtcakellhellddaaGreatDoorTexts
set_option linter.unusedSimpArgs false
set_option linter.unusedVariables false
namespace Go.Proofs.YtcakellhellddaaGreatDoor
open Go.RowKit
/-- An Append that has room, on a disk that is not armed. -/
theorem append_goes {m : DM} {j : JM} {num : Nat} (h : Loose m j num) (hd : m.dead = false) (ha : m.armed = false) (hj : j.dead = false) (s : ByteArray) (hs : s.size ≤ 60000) (hroom : j.used + sizeN s.size ≤ jsize m) (hn : j.next ≤ 2148483648) :
    ∃ r, appendF m j s = (r, { j with recs := j.recs ++ [s], next := j.next + 1, used := j.used + sizeN s.size }, 0) ∧ r.S.length = m.S.length ∧ r.wf ∧ r.dead = false ∧ r.armed = false ∧ (0 ≤ m.writes → m.writes + sizeN s.size < 9223372036854775808 → r.writes = m.writes + sizeN s.size) ∧
      OnDisk r { j with recs := j.recs ++ [s], next := j.next + 1, used := j.used + sizeN s.size } num ∧ (∀ i, i < m.S.length → tail4 (r.at i) < j.next + 1) ∧ r.at (1 - j.area) = m.at (1 - j.area) := by
  obtain ⟨r, hr, g1, g2, g3⟩ := append_law h hd hj s (fun h => by rw [ha] at h; cases h)
  obtain ⟨r1, r2, r3⟩ := r
  rcases g3 with ⟨e1, _, e2, e3, e4, e5, _, e6, e7, e8⟩ | ⟨e, _⟩ | ⟨_, _, e, _⟩
  · dsimp only at *
    subst e1 e5
    exact ⟨r1, hr.symm, g1, g2, e2, e3 ha, e4, e6, e7, e8⟩
  · rcases e with ⟨_, e⟩ | ⟨_, e⟩
    · omega
    · have := e hs hn; omega
  · rw [ha] at e; cases e
def wA : ByteArray := ⟨#[97]⟩
def wB : ByteArray := ⟨#[98]⟩
def wkB : List ByteArray := [wB]
/-- The example's disk: a base, a record. -/
theorem wk_plain : ∃ r1 r2 : DM, formatF (dNew 40) wA = (r1, some ⟨0, wA, [], 2, 1, false⟩, 0) ∧ appendF r1 ⟨0, wA, [], 2, 1, false⟩ wB = (r2, ⟨0, wA, wkB, 3, 2, false⟩, 0) ∧ openF r2 = (some ⟨0, wA, wkB, 3, 2, false⟩, 0) ∧ jsize r2 = 19 := by
  have hz : jsize (dNew 40) = 19 := by unfold jsize dNew; simp
  have hwf := dNew_wf (n := 40) (by decide) (by decide)
  have ht := dNew_top 40
  have hsA : sizeN wA.size = 1 := rfl
  have hsB : sizeN wB.size = 1 := rfl
  have hA : wA.size = 1 := rfl
  have hB : wB.size = 1 := rfl
  obtain ⟨r1, f1, f2, f3, f4, _, f5, _⟩ := format_law hwf (by omega) rfl rfl wA (by omega) (by omega) (dNew_whole 40) (by omega)
  rw [ht, hsA] at f1 f5
  have hz1 : jsize r1 = 19 := by rw [same_size f2, hz]
  obtain ⟨r2, a1, a2, a3, a4, a5, _, a6, _⟩ := append_goes f5.loose f3 f4 rfl wB (by omega) (by show 1 + sizeN wB.size ≤ jsize r1; omega) (by show 2 ≤ 2148483648; omega)
  refine ⟨r1, r2, f1, ?_, ?_, by rw [same_size a2, hz1]⟩
  · rw [a1, hsB]; rfl
  · rw [a6.opens a4, hsB]; rfl
set_option maxRecDepth 100000 in
set_option maxHeartbeats 4000000 in
theorem wakes12_any (w : World) : Calls Tryz.prog 5 #[] w fun e w' => e = .returned (.bool true) ∧ Below w.heap.size w w' := by
  obtain ⟨r1, r2, p1, p2, p3, p4⟩ := wk_plain
  have P1 := Lib.hid p1
  have P2 := Lib.hid p2
  have P3 := Lib.hid p3
  have P4 := Lib.hid p4
  clear p1 p2 p3 p4
  have hA : wA.toList = [97] := by rw [Go.ByteArray.toList_eq]; rfl
  go_enter Tryz.func5, Tryz.ntmps5
  go_wp2_with fail
  refine (new_any 40 (by decide) (by decide) _).mono ?_
  rintro e w1 ⟨b, mb, rfl, hd1, hb1, hlb, hlmb⟩
  have HB1 := Lib.hid hb1
  have HD1 := Lib.hid hd1
  have hn : Hid (∀ k, k < w.heap.size → ¬ own2 b mb k) := Lib.hid (fun k hk h => by rcases h with rfl | rfl <;> omega)
  clear hb1 hd1
  go_wp2_with fail
  refine (format_any b mb (dNew 40) wA _ HD1.out).mono ?_
  rintro e w2 hp
  rw [P1.out] at hp
  obtain ⟨hd2, ho2, jb, rfl, hj2, hlj⟩ := hp
  have HB2 := Lib.hid (HB1.out.trans (ho2.below HB1.out.size hn.out))
  have HD2 := Lib.hid hd2
  have HJ2 := Lib.hid hj2
  have HLJ := Lib.hid (Nat.le_trans HB1.out.size hlj)
  clear hd2 ho2 hj2 hlj
  dsimp only
  go_wp2_with fail
  refine (append_any b mb jb r1 _ _ wB _ HD2.out HJ2.out (by decide)).mono ?_
  rintro e w3 hp
  unfold OpPost at hp
  rw [P2.out] at hp
  obtain ⟨rfl, hd3, ho3, v3, hj3, hv3⟩ := hp
  have HB3 := Lib.hid (HB2.out.trans (ho3.below HB2.out.size (fun k hk h => by
    rcases h with h | h | h
    · exact hn.out k hk h
    · have := HLJ.out; omega
    · cases h)))
  have HD3 := Lib.hid hd3
  clear hd3 ho3 hj3 hv3 HJ2
  dsimp only
  go_wp2_with fail
  refine (jopen_any b mb r2 _ HD3.out).mono ?_
  rintro e w4 hp
  rw [P3.out] at hp
  obtain ⟨hb4, j2, v4, rfl, hj4, hlj2, _⟩ := hp
  have HB4 := Lib.hid (HB3.out.trans (hb4.mono HB3.out.size))
  have HD4 := Lib.hid (HD3.out.only (Only.of_below (S := fun _ => False) hb4) (fun h => h) (fun h => h))
  have HJ4 := Lib.hid hj4
  clear hb4 hj4 hlj2
  dsimp only
  go_wp2_with fail
  refine (jbase_any j2 b v4 _ _ HJ4.out).mono ?_
  rintro e w5 ⟨rfl, hw5⟩
  have hw5 := hw5.symm
  subst hw5
  dsimp only
  go_wp2_with fail
  refine (jrecords_any j2 b v4 _ _ HJ4.out).mono ?_
  rintro e w5 ⟨v5, rfl, hs5, ho5, hb5⟩
  have HB5 := Lib.hid (HB4.out.trans (hb5.mono HB4.out.size))
  have HD5 := Lib.hid (HD4.out.only (Only.of_below (S := fun _ => False) hb5) (fun h => h) (fun h => h))
  have HJ5 := Lib.hid (HJ4.out.grown hb5)
  obtain ⟨w6, hw6⟩ : ∃ w6, w6 = w5.alloc (.cells #[.string wB] 9) := ⟨_, rfl⟩
  have hb6 : Below w5.heap.size w5 w6 := by rw [hw6]; exact (Below.refl _ w5).alloc (Nat.le_refl _) _
  have hS6 : StrsAt w6 (.slice (some ⟨w5.heap.size, 0, none⟩) 1 1) wkB := by
    rw [hw6]
    refine ⟨_, _, rfl, by decide, by decide, fun _ => ⟨_, 0, rfl, (Blk.new w5 #[.string wB] 9).lt, fun j y hj => ?_⟩⟩
    cases j with
    | zero => obtain rfl := Option.some.inj hj; exact (Blk.new w5 #[.string wB] 9).cell 0
    | succ j => simp [wkB] at hj
  have HS6 := Lib.hid hS6
  have HS5 := Lib.hid (hs5.below hb6)
  have HB6 := Lib.hid (HB5.out.trans (hb6.mono HB5.out.size))
  have HD6 := Lib.hid (HD5.out.only (Only.of_below (S := fun _ => False) hb6) (fun h => h) (fun h => h))
  have HJ6 := Lib.hid (HJ5.out.grown hb6)
  clear hb5 hs5 ho5 hb6 hS6
  go_wp2_with fail
  have HW6 := Lib.hid hw6
  refine (texts_any _ _ wkB wkB _ (hw6 ▸ HS5.out) (hw6 ▸ HS6.out)).mono ?_
  rintro e w7 ⟨rfl, hb7⟩
  have hb7 : Below w6.heap.size w6 w7 := by rw [hw6]; exact hb7
  have HB7 := Lib.hid (HB6.out.trans (hb7.mono HB6.out.size))
  have HD7 := Lib.hid (HD6.out.only (Only.of_below (S := fun _ => False) hb7) (fun h => h) (fun h => h))
  have HJ7 := Lib.hid (HJ6.out.grown hb7)
  clear hb7 hw6
  generalize hq9 : decide (wkB = wkB) = q9
  obtain rfl : q9 = true := by rw [← hq9]; exact decide_eq_true rfl
  clear hq9
  go_wp2_with fail
  refine (jnext_any j2 b v4 _ _ HJ7.out).mono ?_
  rintro e w8 ⟨rfl, hw8⟩
  have hw8 := hw8.symm
  subst hw8
  dsimp only
  go_wp2_with fail
  refine (jleft_any j2 b mb v4 _ r2 _ HJ7.out HD7.out).mono ?_
  rintro e w8 ⟨rfl, hb8⟩
  rw [P4.out]
  have HB8 := Lib.hid (HB7.out.trans (hb8.mono HB7.out.size))
  clear hb8
  dsimp only
  go_wp2_with fail
  go_ret
  exact ⟨rfl, HB8.out⟩
end Go.Proofs.YtcakellhellddaaGreatDoor
