/- A journal that is written, saved, cut off, opened and formatted, over a disk on which anything may be written, one step behind the other: each answer, the base, the records, and all sectors, are the document's. No condition; a longer script, or more sectors, than the statement's own limits ask the example alone. -/
import Derived.Test.YtcakellhellddaaGreatDoorRows
import Derived.Test.YtcakellhellddaaGreatDoorCards
import Derived.Test.YtcakellhellddaaGreatDoorTie
import Derived.Test.YtcakellhellddaaGreatDoorPlWalk
import Derived.Test.YtcakellhellddaaGreatDoorJoSteps
import Derived.ProofKit
import Derived.OpenShut
import Derived.ShutString
import Derived.Lay
import Derived.PinnedBridge
import Derived.SevenTiedAt
set_option linter.unusedSimpArgs false
set_option linter.unusedVariables false
namespace Go.Proofs.YtcakellhellddaaGreatDoor.journalPlays
open Go.ChangeShapes Go.WideShapes Go.ChangeAt Go.RowKit
open Go.ChangeMaps (open_string shut_string)
def eBase : ByteArray := ⟨#[98, 97, 115, 101]⟩
theorem wf64_of {n : Int} (h : (Lit.int .i64 n).wf = true) : -9223372036854775808 ≤ n ∧ n ≤ 9223372036854775807 := by
  simpa [Lit.wf, IntKind.min, IntKind.max, IntKind.signed, IntKind.bits] using h
theorem ref_cells {w : World} {rb sb : Nat} {m : DM} (h : RefAt w rb sb m) : w.cell? ⟨rb, 1, none⟩ = some (.bool m.dead) ∧ w.cell? ⟨rb, 5, none⟩ = some (.int .i64 m.writes) := by
  obtain ⟨_, _, l, cap, cur, hb, _⟩ := h
  exact ⟨hb.cell 1, hb.cell 5⟩
set_option maxRecDepth 100000 in
set_option maxHeartbeats 8000000 in
theorem walk (w : World) (n : Int) (hn : (Lit.int .i64 n).wf = true) (vl : Value) (l : List StepJ) (hl0 : SlR kStepJ w l vl) :
    Calls Tryz.prog 3 #[.int .i64 n, vl] w fun e w' => e = .returned (.bool true) ∧ Below w.heap.size w w' := by
  have hn := wf64_of hn
  obtain ⟨ad, cap, rfl, hlc, hcm, hst⟩ := steps_in hl0
  have HST := Lib.hid hst
  obtain ⟨ln, hln⟩ : ∃ ln, ln = l.length := ⟨_, rfl⟩
  rw [← hln] at hlc ⊢
  have HN := Lib.hid hln
  unfold maxLen at hcm
  clear hl0 hst hln
  have HB := Lib.hid (Below.refl w.heap.size w)
  go_enter Tryz.func3, Tryz.ntmps3
  go_wp2_with fail
  rw [HN.out]
  refine (fair12_any _ ad cap l HST.out (by have := HN.out; unfold maxLen; omega)).mono ?_
  rintro e w3 hf
  obtain ⟨bf, rfl, hf2, hw3⟩ := hf
  have hw3 := hw3.symm
  subst hw3
  rw [← HN.out]
  cases bf
  · clear hf2
    go_wp2_with fail
    refine (wakes12_any _).mono ?_
    rintro e w9 ⟨rfl, hb9⟩
    go_wp2_with fail
    go_ret
    exact ⟨rfl, (HB.out.trans (hb9.mono HB.out.size))⟩
  · obtain ⟨h60, hsz⟩ := hf2 rfl
    have HSZ := Lib.hid hsz
    have hn60 : ln ≤ 60 := by rw [HN.out]; exact h60
    clear hf2 hsz h60
    by_cases hr : n < 1 ∨ 4096 < n
    · go_wp2_with fail
      refine (new_bad n hr _).mono ?_
      rintro e w1 ⟨rfl, hw1⟩
      have hw1 := hw1.symm
      subst hw1
      go_wp2_with fail
      refine (ref_new_bad n hr _).mono ?_
      rintro e w1 ⟨rfl, hw1⟩
      have hw1 := hw1.symm
      subst hw1
      by_cases h400 : 400 < n
      · clear hr hn
        go_wp2_with fail
        refine (wakes12_any _).mono ?_
        rintro e w9 ⟨rfl, hb9⟩
        go_wp2_with fail
        go_ret
        exact ⟨rfl, (HB.out.trans (hb9.mono HB.out.size))⟩
      · clear hr hn
        go_wp2_with fail
        refine (wakes12_any _).mono ?_
        rintro e w9 ⟨rfl, hb9⟩
        go_wp2_with fail
        go_ret
        exact ⟨rfl, (HB.out.trans (hb9.mono HB.out.size))⟩
    · obtain ⟨N, rfl⟩ := Int.eq_ofNat_of_zero_le (show 0 ≤ n by omega)
      have hN1 : 1 ≤ N := by omega
      have hN2 : N ≤ 4096 := by omega
      clear hr hn
      go_wp2_with fail
      refine (new_any N hN1 hN2 _).mono ?_
      rintro e w1 ⟨b, mb, rfl, hd1, hb1, hg1, hg2⟩
      have HD1 := Lib.hid hd1
      have HB1 := Lib.hid hb1
      clear hd1 hb1
      go_wp2_with fail
      refine (ref_new N hN1 hN2 _).mono ?_
      rintro e w2 ⟨rb, sb, rfl, hd2, hb2, hg3, hg4⟩
      have HB := Lib.hid (HB1.out.trans (hb2.mono HB1.out.size))
      have HJ2 : Hid (JP w b mb rb sb (dNew N) (dNew N) none none (.pointer none) (.pointer none) (own2 b mb) (own2 rb sb) w2) := Lib.hid (by
        have q1 := HD1.out.lt
        have q2 := HB1.out.size
        have q3 := hb2.size
        have q4 := hd2.lt
        refine ⟨HB.out, HD1.out.grownS hb2, hd2, ?_, ?_, ?_, fun k hk => hk, fun k hk => hk, rfl, rfl, fun j hj => by cases hj⟩
        · rintro k (rfl | rfl) <;> omega
        · rintro k (rfl | rfl) <;> omega
        · rintro k (rfl | rfl) (h | h) <;> omega)
      clear hd2 hb2 hg1 hg2 hg3 hg4 HD1
      by_cases h400 : (400 : Int) < (N : Int)
      · go_wp2_with fail
        refine (wakes12_any _).mono ?_
        rintro e w9 ⟨rfl, hb9⟩
        go_wp2_with fail
        go_ret
        exact ⟨rfl, (HB.out.trans (hb9.mono HB.out.size))⟩
      · go_wp2_with fail
        refine (jp_format HJ2.out eBase).mono ?_
        rintro e w3 ⟨x3, A3, rfl, hj3, _⟩
        have HJ3 := Lib.hid hj3
        clear hj3
        go_wp2_with fail
        refine (jq_format HJ3.out eBase (by decide)).mono ?_
        rintro e w4 ⟨y4, B4, rfl, hj4, _⟩
        have HJ4 := Lib.hid hj4
        clear hj4 HJ3 HJ2 HB HB1
        revert HJ4
        generalize (formatF (dNew N) eBase).1 = m4
        generalize (formatF (dNew N) eBase).2.1 = j4
        generalize (formatF (dNew N) eBase).2.2 = e4
        intro HJ4
        go_wp2_with fail
        refine (same12_any HJ4.out).mono ?_
        rintro e w5 ⟨rfl, hb5⟩
        have HJ5 := Lib.hid (HJ4.out.below hb5)
        clear hb5 HJ4
        go_wp2_with fail
        go_loopw [9, 11, 13] (fun x y z wr => ∃ (i : Nat) (m : DM) (jo : Option JM) (A B : Nat → Prop), i ≤ ln ∧ z = .int .i64 i ∧ JP w b mb rb sb m m jo jo x y A B wr) (fun _ _ z _ => ln - (intOf z).toNat)
        case atStart => exact ⟨0, _, _, _, _, Nat.zero_le _, rfl, HJ5.out⟩
        case round =>
          obtain ⟨i, m, jo, A, B, hi, rfl, hJ⟩ := hrel
          have HJ := Lib.hid hJ
          have HB := Lib.hid hJ.bel
          clear hJ HJ5
          by_cases hlt : i < ln
          · obtain ⟨s, hx⟩ : ∃ s, l[i]? = some s := ⟨l[i]'(by have := HN.out; omega), List.getElem?_eq_getElem _⟩
            obtain ⟨be, oe, rfl, hbe, d0, d1, d2, d3, _⟩ := HST.out i s hx
            have hs9 : s.2.2.2.1.size ≤ 61000 := HSZ.out s (List.mem_of_getElem? hx)
            obtain ⟨kd, nn, pp, ss, uu⟩ := s
            dsimp only at d0 d1 d2 d3 hs9
            have c0 : wr.cell? ⟨be, oe + i * 4, none⟩ = some (.int .i64 kd) := (HB.out.cell (p := ⟨be, oe + i * 4, none⟩) hbe).trans d0
            have c1 : wr.cell? ⟨be, oe + i * 4 + 1, none⟩ = some (.int .i64 nn) := (HB.out.cell (p := ⟨be, oe + i * 4 + 1, none⟩) hbe).trans d1
            have c2 : wr.cell? ⟨be, oe + i * 4 + 2, none⟩ = some (.int .i64 pp) := (HB.out.cell (p := ⟨be, oe + i * 4 + 2, none⟩) hbe).trans d2
            have c3 : wr.cell? ⟨be, oe + i * 4 + 3, none⟩ = some (.string ss) := (HB.out.cell (p := ⟨be, oe + i * 4 + 3, none⟩) hbe).trans d3
            clear hx d0 d1 d2 d3
            obtain ⟨wa, hwa⟩ : ∃ wa, wa = wr.alloc (.cells #[.int .i64 kd, .int .i64 nn, .int .i64 pp, .string ss] 40) := ⟨_, rfl⟩
            have hba : Below wr.heap.size wr wa := by rw [hwa]; exact (Below.refl _ _).alloc (Nat.le_refl _) _
            have hKA : Blk wa wr.heap.size #[.int .i64 kd, .int .i64 nn, .int .i64 pp, .string ss] 40 := by rw [hwa]; exact Blk.new _ _ _
            have HA := Lib.hid (HJ.out.below hba)
            have HKA := Lib.hid hKA
            have e0 : wa.cell? ⟨wr.heap.size, 0, none⟩ = some (.int .i64 kd) := hKA.cell 0
            have e1 : wa.cell? ⟨wr.heap.size, 1, none⟩ = some (.int .i64 nn) := hKA.cell 1
            have e2 : wa.cell? ⟨wr.heap.size, 2, none⟩ = some (.int .i64 pp) := hKA.cell 2
            have e3 : wa.cell? ⟨wr.heap.size, 3, none⟩ = some (.string ss) := hKA.cell 3
            clear hba hKA
            have hnA : Hid (¬ A wr.heap.size) := Lib.hid (fun h => by have := (HJ.out.a0 _ h).2; omega)
            have hnB : Hid (¬ B wr.heap.size) := Lib.hid (fun h => by have := (HJ.out.b0 _ h).2; omega)
            by_cases hk0 : kd = 0
            · subst hk0
              cases jo with
              | none =>
                obtain rfl : u11 = .pointer none := HJ.out.qj
                go_wp2_with fail
                rw [← hwa]
                clear hwa
                go_roundw
                case rel => exact ⟨i + 1, _, _, _, _, by omega, by go_num, HA.out⟩
                case measure => simp [intOf]; omega
              | some j =>
                have hrl : j.recs.length ≤ 999999 := by
                  have h1 := (HJ.out.ok j rfl).2
                  have h2 := jsize_le HJ.out.disk.wf
                  omega
                obtain ⟨qb, u, rfl, _, _, _, _⟩ := HJ.out.qj
                go_wp2_with fail
                rw [← hwa]
                clear hwa
                refine wp_region_held_drew (S := fun w1 => w1.cell? ⟨wr.heap.size, 3, none⟩ = some (.string ss)) (by kernel_rfl) e3 (fun hHeld => ?_)
                refine take_op 0 (some 105) (v := ?_) rfl rfl (by kernel_rfl) (by kernel_rfl) (by kernel_rfl) (fun _ _ _ h => h) (Or.inl ⟨by rfl, ?_⟩) (by assumption) ?_
                rotate_left
                · intro w_ hSw_; (try dsimp only at hSw_); go_simp; (try with_reducible rfl)
                try simp only [Act.put, List.setIfInBounds_toArray, List.set_cons_zero, List.set_cons_succ]
                refine take_op 1 (some 106) (v := ?_) rfl rfl (by kernel_rfl) (by kernel_rfl) (by kernel_rfl) (fun _ _ _ h => h) (Or.inl ⟨by rfl, ?_⟩) (by assumption) ?_
                rotate_left
                · intro w_ hSw_; (try dsimp only at hSw_); go_simp; (try with_reducible rfl)
                try simp only [Act.put, List.setIfInBounds_toArray, List.set_cons_zero, List.set_cons_succ]
                refine take_op 2 (some 107) (v := ?_) rfl rfl (by kernel_rfl) (by kernel_rfl) (by kernel_rfl) (fun _ _ _ h => h) (Or.inl ⟨by rfl, ?_⟩) (by assumption) ?_
                rotate_left
                · intro w_ hSw_; (try dsimp only at hSw_); go_simp; (try with_reducible rfl)
                try simp only [Act.put, List.setIfInBounds_toArray, List.set_cons_zero, List.set_cons_succ]
                refine take_op 4 (some 109) (v := ?_) rfl rfl (by kernel_rfl) (by kernel_rfl) (by kernel_rfl) (fun _ _ _ h => h) (Or.inl ⟨by rfl, ?_⟩) (by assumption) ?_
                rotate_left
                · intro w_ hSw_; (try dsimp only at hSw_); go_simp; (try with_reducible rfl)
                try simp only [Act.put, List.setIfInBounds_toArray, List.set_cons_zero, List.set_cons_succ]
                refine take_op 5 (some 110) (v := ?_) rfl rfl (by kernel_rfl) (by kernel_rfl) (by kernel_rfl) (fun _ _ _ h => h) (Or.inl ⟨by rfl, ?_⟩) (by assumption) ?_
                rotate_left
                · intro w_ hSw_; (try dsimp only at hSw_); go_simp; (try with_reducible rfl)
                try simp only [Act.put, List.setIfInBounds_toArray, List.set_cons_zero, List.set_cons_succ]
                refine take_op 6 (some 111) (v := ?_) rfl rfl (by kernel_rfl) (by kernel_rfl) (by kernel_rfl) (fun _ _ _ h => h) (Or.inl ⟨by rfl, ?_⟩) (by assumption) ?_
                rotate_left
                · intro w_ hSw_; (try dsimp only at hSw_); go_simp; (try with_reducible rfl)
                try simp only [Act.put, List.setIfInBounds_toArray, List.set_cons_zero, List.set_cons_succ]
                refine go_op 3 rfl (by kernel_rfl) (fun K_ hK_ => ?_)
                go_simp
                refine (jp_append (HA.out.below ((Below.refl _ _).drew)) hrl ss).mono ?_
                rintro e w5 ⟨rfl, A5, hj5, ho5⟩
                have HJ5 := Lib.hid hj5
                have hK5 := ho5.blk HKA.out.drew hnA.out
                clear hj5 ho5
                refine hK_.out _ _ ?_ (fun hHeld_ => ?_)
                · exact hK5.cell 3
                refine go_op 7 rfl (by kernel_rfl) (fun K_ hK_ => ?_)
                go_simp
                refine (jq_append HJ5.out ss (by unfold maxLen; omega)).mono ?_
                rintro e w6 ⟨rfl, B6, hj6, ho6⟩
                have hK6 := ho6.blk hK5 hnB.out
                have HTt := Lib.hid hj6
                clear hj6 ho6 HJ5
                refine hK_.out _ _ ?_ (fun hHeld_ => ?_)
                · exact hK6.cell 3
                refine take_op 8 (some 15) (v := ?_) rfl rfl (by kernel_rfl) (by kernel_rfl) (by kernel_rfl) (fun _ _ _ h => h) (Or.inl ⟨by rfl, ?_⟩) (by assumption) ?_
                rotate_left
                · intro w_ hSw_; (try dsimp only at hSw_); go_simp; (try with_reducible rfl)
                try simp only [Act.put, List.setIfInBounds_toArray, List.set_cons_zero, List.set_cons_succ]
                refine take_op 9 (some 16) (v := ?_) rfl rfl (by kernel_rfl) (by kernel_rfl) (by kernel_rfl) (fun _ _ _ h => h) (Or.inl ⟨by rfl, ?_⟩) (by assumption) ?_
                rotate_left
                · intro w_ hSw_; (try dsimp only at hSw_); go_simp; (try with_reducible rfl)
                try simp only [Act.put, List.setIfInBounds_toArray, List.set_cons_zero, List.set_cons_succ]
                refine wpAnyH_done (by kernel_rfl) ?_ _
                clear hK5 hK6 hHeld hHeld_ e0 e1 e2 e3
                revert HTt
                generalize (appendF m j ss).1 = mt
                generalize (appendF m j ss).2.1 = jt
                generalize (appendF m j ss).2.2 = rt
                intro HTt
                as_aux_lemma =>
                  have t1 := (ref_cells HTt.out.ref).1
                  have t5 := (ref_cells HTt.out.ref).2
                  go_wp2_with fail
                  refine wp_region_held_drew (S := fun w1 => w1.cell? ⟨rb, 1, none⟩ = some (.bool mt.dead) ∧ w1.cell? ⟨rb, 5, none⟩ = some (.int .i64 mt.writes)) (by kernel_rfl) ⟨t1, t5⟩ (fun hHeld => ?_)
                  refine take_op 0 (some 193) (v := ?_) rfl rfl (by kernel_rfl) (by kernel_rfl) (by kernel_rfl) (fun _ _ _ h => h) (Or.inl ⟨by rfl, ?_⟩) (by assumption) ?_
                  rotate_left
                  · intro w_ hSw_; (try dsimp only at hSw_); go_simp; (try with_reducible rfl)
                  try simp only [Act.put, List.setIfInBounds_toArray, List.set_cons_zero, List.set_cons_succ]
                  refine take_op 1 (some 194) (v := ?_) rfl rfl (by kernel_rfl) (by kernel_rfl) (by kernel_rfl) (fun _ _ _ h => h) (Or.inl ⟨by rfl, ?_⟩) (by assumption) ?_
                  rotate_left
                  · intro w_ hSw_; (try dsimp only at hSw_); go_simp; (try with_reducible rfl)
                  try simp only [Act.put, List.setIfInBounds_toArray, List.set_cons_zero, List.set_cons_succ]
                  refine take_op 2 (some 195) (v := ?_) rfl rfl (by kernel_rfl) (by kernel_rfl) (by kernel_rfl) (fun _ _ _ h => h) (Or.inl ⟨by rfl, ?_⟩) (by assumption) ?_
                  rotate_left
                  · intro w_ hSw_; (try dsimp only at hSw_); go_simp; (try with_reducible rfl)
                  try simp only [Act.put, List.setIfInBounds_toArray, List.set_cons_zero, List.set_cons_succ]
                  refine take_op 3 (some 196) (v := ?_) rfl rfl (by kernel_rfl) (by kernel_rfl) (by kernel_rfl) (fun _ _ _ h => h) (Or.inl ⟨by rfl, ?_⟩) (by assumption) ?_
                  rotate_left
                  · intro w_ hSw_; (try dsimp only at hSw_); go_simp; (try with_reducible rfl)
                  try simp only [Act.put, List.setIfInBounds_toArray, List.set_cons_zero, List.set_cons_succ]
                  refine take_op 4 (some 197) (v := ?_) rfl rfl (by kernel_rfl) (by kernel_rfl) (by kernel_rfl) (fun _ _ _ h => h) (Or.inl ⟨by rfl, ?_⟩) (by assumption) ?_
                  rotate_left
                  · intro w_ hSw_; (try dsimp only at hSw_); go_simp; (try with_reducible rfl)
                  try simp only [Act.put, List.setIfInBounds_toArray, List.set_cons_zero, List.set_cons_succ]
                  refine take_op 5 (some 198) (v := ?_) rfl rfl (by kernel_rfl) (by kernel_rfl) (by kernel_rfl) (fun _ _ _ h => h) (Or.inl ⟨by rfl, ?_⟩) (by assumption) ?_
                  rotate_left
                  · intro w_ hSw_; (try dsimp only at hSw_); go_simp; (try with_reducible rfl)
                  try simp only [Act.put, List.setIfInBounds_toArray, List.set_cons_zero, List.set_cons_succ]
                  refine go_op 6 rfl (by kernel_rfl) (fun K_ hK_ => ?_)
                  go_simp
                  refine (same12_any (HTt.out.below ((Below.refl _ _).drew))).mono ?_
                  rintro e w8 ⟨rfl, hb8⟩
                  have HT8 := Lib.hid ((HTt.out.below ((Below.refl _ _).drew)).below hb8)
                  clear hb8 t1 t5
                  have s1 := (ref_cells HT8.out.ref).1
                  have s5 := (ref_cells HT8.out.ref).2
                  refine hK_.out _ _ ?_ (fun hHeld_ => ?_)
                  · exact ⟨s1, s5⟩
                  refine take_op 7 (some 200) (v := ?_) rfl rfl (by kernel_rfl) (by kernel_rfl) (by kernel_rfl) (fun _ _ _ h => h) (Or.inl ⟨by rfl, ?_⟩) (by assumption) ?_
                  rotate_left
                  · intro w_ hSw_; (try dsimp only at hSw_); go_simp; (try with_reducible rfl)
                  try simp only [Act.put, List.setIfInBounds_toArray, List.set_cons_zero, List.set_cons_succ]
                  refine take_op 8 (some 201) (v := ?_) rfl rfl (by kernel_rfl) (by kernel_rfl) (by kernel_rfl) (fun _ _ _ h => h) (Or.inl ⟨by rfl, ?_⟩) (by assumption) ?_
                  rotate_left
                  · intro w_ hSw_; (try dsimp only at hSw_); go_simp; (try with_reducible rfl)
                  try simp only [Act.put, List.setIfInBounds_toArray, List.set_cons_zero, List.set_cons_succ]
                  refine take_op 9 (some 202) (v := ?_) rfl rfl (by kernel_rfl) (by kernel_rfl) (by kernel_rfl) (fun _ _ _ h => h) (Or.inl ⟨by rfl, ?_⟩) (by assumption) ?_
                  rotate_left
                  · intro w_ hSw_; (try dsimp only at hSw_); go_simp; (try with_reducible rfl)
                  try simp only [Act.put, List.setIfInBounds_toArray, List.set_cons_zero, List.set_cons_succ]
                  refine take_op 10 (some 203) (v := ?_) rfl rfl (by kernel_rfl) (by kernel_rfl) (by kernel_rfl) (fun _ _ _ h => h) (Or.inl ⟨by rfl, ?_⟩) (by assumption) ?_
                  rotate_left
                  · intro w_ hSw_; (try dsimp only at hSw_); go_simp; (try with_reducible rfl)
                  try simp only [Act.put, List.setIfInBounds_toArray, List.set_cons_zero, List.set_cons_succ]
                  refine take_op 12 (some 205) (v := ?_) rfl rfl (by kernel_rfl) (by kernel_rfl) (by kernel_rfl) (fun _ _ _ h => h) (Or.inl ⟨by rfl, ?_⟩) (by assumption) ?_
                  rotate_left
                  · intro w_ hSw_; (try dsimp only at hSw_); go_simp; (try with_reducible rfl)
                  try simp only [Act.put, List.setIfInBounds_toArray, List.set_cons_zero, List.set_cons_succ]
                  refine take_op 13 (some 206) (v := ?_) rfl rfl (by kernel_rfl) (by kernel_rfl) (by kernel_rfl) (fun _ _ _ h => h) (Or.inl ⟨by rfl, ?_⟩) (by assumption) ?_
                  rotate_left
                  · intro w_ hSw_; (try dsimp only at hSw_); go_simp; (try with_reducible rfl)
                  try simp only [Act.put, List.setIfInBounds_toArray, List.set_cons_zero, List.set_cons_succ]
                  refine take_op 14 (some 207) (v := ?_) rfl rfl (by kernel_rfl) (by kernel_rfl) (by kernel_rfl) (fun _ _ _ h => h) (Or.inl ⟨by rfl, ?_⟩) (by assumption) ?_
                  rotate_left
                  · intro w_ hSw_; (try dsimp only at hSw_); go_simp; (try with_reducible rfl)
                  try simp only [Act.put, List.setIfInBounds_toArray, List.set_cons_zero, List.set_cons_succ]
                  refine take_op 15 (some 208) (v := ?_) rfl rfl (by kernel_rfl) (by kernel_rfl) (by kernel_rfl) (fun _ _ _ h => h) (Or.inl ⟨by rfl, ?_⟩) (by assumption) ?_
                  rotate_left
                  · intro w_ hSw_; (try dsimp only at hSw_); go_simp; (try with_reducible rfl)
                  try simp only [Act.put, List.setIfInBounds_toArray, List.set_cons_zero, List.set_cons_succ]
                  refine go_op 11 rfl (by kernel_rfl) (fun K_ hK_ => ?_)
                  go_simp
                  refine (dead_any b mb mt _ HT8.out.disk).mono ?_
                  rintro e w9 ⟨rfl, hw9⟩
                  have hw9 := hw9.symm
                  subst hw9
                  refine hK_.out _ _ ?_ (fun hHeld_ => ?_)
                  · exact ⟨s1, s5⟩
                  refine take_op 16 (some 209) (v := ?_) rfl rfl (by kernel_rfl) (by kernel_rfl) (by kernel_rfl) (fun _ _ _ h => h) (Or.inl ⟨by rfl, ?_⟩) (by assumption) ?_
                  rotate_left
                  · intro w_ hSw_; (try dsimp only at hSw_); go_simp; (try with_reducible rfl)
                  try simp only [Act.put, List.setIfInBounds_toArray, List.set_cons_zero, List.set_cons_succ]
                  refine take_op 17 (some 210) (v := ?_) rfl rfl (by kernel_rfl) (by kernel_rfl) (by kernel_rfl) (fun _ _ _ h => h) (Or.inl ⟨by rfl, ?_⟩) (by assumption) ?_
                  rotate_left
                  · intro w_ hSw_; (try dsimp only at hSw_); go_simp; (try with_reducible rfl)
                  try simp only [Act.put, List.setIfInBounds_toArray, List.set_cons_zero, List.set_cons_succ]
                  refine take_op 18 (some 211) (v := ?_) rfl rfl (by kernel_rfl) (by kernel_rfl) (by kernel_rfl) (fun _ _ _ h => h) (Or.inl ⟨by rfl, ?_⟩) (by assumption) ?_
                  rotate_left
                  · intro w_ hSw_; (try dsimp only at hSw_); go_simp; (try with_reducible rfl)
                  try simp only [Act.put, List.setIfInBounds_toArray, List.set_cons_zero, List.set_cons_succ]
                  refine take_op 19 (some 212) (v := ?_) rfl rfl (by kernel_rfl) (by kernel_rfl) (by kernel_rfl) (fun _ _ _ h => h) (Or.inl ⟨by rfl, ?_⟩) (by assumption) ?_
                  rotate_left
                  · intro w_ hSw_; (try dsimp only at hSw_); go_simp; (try with_reducible rfl)
                  try simp only [Act.put, List.setIfInBounds_toArray, List.set_cons_zero, List.set_cons_succ]
                  refine take_op 21 (some 214) (v := ?_) rfl rfl (by kernel_rfl) (by kernel_rfl) (by kernel_rfl) (fun _ _ _ h => h) (Or.inl ⟨by rfl, ?_⟩) (by assumption) ?_
                  rotate_left
                  · intro w_ hSw_; (try dsimp only at hSw_); go_simp; (try with_reducible rfl)
                  try simp only [Act.put, List.setIfInBounds_toArray, List.set_cons_zero, List.set_cons_succ]
                  refine take_op 22 (some 215) (v := ?_) rfl rfl (by kernel_rfl) (by kernel_rfl) (by kernel_rfl) (fun _ _ _ h => h) (Or.inl ⟨by rfl, ?_⟩) (by assumption) ?_
                  rotate_left
                  · intro w_ hSw_; (try dsimp only at hSw_); go_simp; (try with_reducible rfl)
                  try simp only [Act.put, List.setIfInBounds_toArray, List.set_cons_zero, List.set_cons_succ]
                  refine take_op 23 (some 216) (v := ?_) rfl rfl (by kernel_rfl) (by kernel_rfl) (by kernel_rfl) (fun _ _ _ h => h) (Or.inl ⟨by rfl, ?_⟩) (by assumption) ?_
                  rotate_left
                  · intro w_ hSw_; (try dsimp only at hSw_); go_simp; (try with_reducible rfl)
                  try simp only [Act.put, List.setIfInBounds_toArray, List.set_cons_zero, List.set_cons_succ]
                  refine take_op 24 (some 217) (v := ?_) rfl rfl (by kernel_rfl) (by kernel_rfl) (by kernel_rfl) (fun _ _ _ h => h) (Or.inl ⟨by rfl, ?_⟩) (by assumption) ?_
                  rotate_left
                  · intro w_ hSw_; (try dsimp only at hSw_); go_simp; (try with_reducible rfl)
                  try simp only [Act.put, List.setIfInBounds_toArray, List.set_cons_zero, List.set_cons_succ]
                  refine go_op 20 rfl (by kernel_rfl) (fun K_ hK_ => ?_)
                  go_simp
                  refine (writes_any b mb mt _ HT8.out.disk).mono ?_
                  rintro e w9 ⟨rfl, hw9⟩
                  have hw9 := hw9.symm
                  subst hw9
                  refine hK_.out _ _ ?_ (fun hHeld_ => ?_)
                  · exact ⟨s1, s5⟩
                  refine take_op 25 (some 218) (v := ?_) rfl rfl (by kernel_rfl) (by kernel_rfl) (by kernel_rfl) (fun _ _ _ h => h) (Or.inl ⟨by rfl, ?_⟩) (by assumption) ?_
                  rotate_left
                  · intro w_ hSw_; (try dsimp only at hSw_); go_simp; (try with_reducible rfl)
                  try simp only [Act.put, List.setIfInBounds_toArray, List.set_cons_zero, List.set_cons_succ]
                  refine take_op 26 (some 219) (v := ?_) rfl rfl (by kernel_rfl) (by kernel_rfl) (by kernel_rfl) (fun _ _ _ h => h) (Or.inl ⟨by rfl, ?_⟩) (by assumption) ?_
                  rotate_left
                  · intro w_ hSw_; (try dsimp only at hSw_); go_simp; (try with_reducible rfl)
                  try simp only [Act.put, List.setIfInBounds_toArray, List.set_cons_zero, List.set_cons_succ]
                  refine wpAnyH_done (by kernel_rfl) ?_ _
                  go_wp2_with fail
                  go_roundw
                  case rel => exact ⟨i + 1, _, _, _, _, by omega, by go_num, HT8.out⟩
                  case measure => simp [intOf]; omega
            · by_cases hk1 : kd = 1
              · subst hk1
                cases jo with
                | none =>
                  obtain rfl : u11 = .pointer none := HJ.out.qj
                  go_wp2_with fail
                  rw [← hwa]
                  clear hwa
                  go_roundw
                  case rel => exact ⟨i + 1, _, _, _, _, by omega, by go_num, HA.out⟩
                  case measure => simp [intOf]; omega
                | some j =>
                  have hrl : j.recs.length ≤ 999999 := by
                    have h1 := (HJ.out.ok j rfl).2
                    have h2 := jsize_le HJ.out.disk.wf
                    omega
                  obtain ⟨qb, u, rfl, _, _, _, _⟩ := HJ.out.qj
                  go_wp2_with fail
                  rw [← hwa]
                  clear hwa
                  refine wp_region_held_drew (S := fun w1 => w1.cell? ⟨wr.heap.size, 3, none⟩ = some (.string ss)) (by kernel_rfl) e3 (fun hHeld => ?_)
                  refine take_op 0 (some 113) (v := ?_) rfl rfl (by kernel_rfl) (by kernel_rfl) (by kernel_rfl) (fun _ _ _ h => h) (Or.inl ⟨by rfl, ?_⟩) (by assumption) ?_
                  rotate_left
                  · intro w_ hSw_; (try dsimp only at hSw_); go_simp; (try with_reducible rfl)
                  try simp only [Act.put, List.setIfInBounds_toArray, List.set_cons_zero, List.set_cons_succ]
                  refine take_op 1 (some 114) (v := ?_) rfl rfl (by kernel_rfl) (by kernel_rfl) (by kernel_rfl) (fun _ _ _ h => h) (Or.inl ⟨by rfl, ?_⟩) (by assumption) ?_
                  rotate_left
                  · intro w_ hSw_; (try dsimp only at hSw_); go_simp; (try with_reducible rfl)
                  try simp only [Act.put, List.setIfInBounds_toArray, List.set_cons_zero, List.set_cons_succ]
                  refine take_op 2 (some 115) (v := ?_) rfl rfl (by kernel_rfl) (by kernel_rfl) (by kernel_rfl) (fun _ _ _ h => h) (Or.inl ⟨by rfl, ?_⟩) (by assumption) ?_
                  rotate_left
                  · intro w_ hSw_; (try dsimp only at hSw_); go_simp; (try with_reducible rfl)
                  try simp only [Act.put, List.setIfInBounds_toArray, List.set_cons_zero, List.set_cons_succ]
                  refine take_op 4 (some 117) (v := ?_) rfl rfl (by kernel_rfl) (by kernel_rfl) (by kernel_rfl) (fun _ _ _ h => h) (Or.inl ⟨by rfl, ?_⟩) (by assumption) ?_
                  rotate_left
                  · intro w_ hSw_; (try dsimp only at hSw_); go_simp; (try with_reducible rfl)
                  try simp only [Act.put, List.setIfInBounds_toArray, List.set_cons_zero, List.set_cons_succ]
                  refine take_op 5 (some 118) (v := ?_) rfl rfl (by kernel_rfl) (by kernel_rfl) (by kernel_rfl) (fun _ _ _ h => h) (Or.inl ⟨by rfl, ?_⟩) (by assumption) ?_
                  rotate_left
                  · intro w_ hSw_; (try dsimp only at hSw_); go_simp; (try with_reducible rfl)
                  try simp only [Act.put, List.setIfInBounds_toArray, List.set_cons_zero, List.set_cons_succ]
                  refine take_op 6 (some 119) (v := ?_) rfl rfl (by kernel_rfl) (by kernel_rfl) (by kernel_rfl) (fun _ _ _ h => h) (Or.inl ⟨by rfl, ?_⟩) (by assumption) ?_
                  rotate_left
                  · intro w_ hSw_; (try dsimp only at hSw_); go_simp; (try with_reducible rfl)
                  try simp only [Act.put, List.setIfInBounds_toArray, List.set_cons_zero, List.set_cons_succ]
                  refine go_op 3 rfl (by kernel_rfl) (fun K_ hK_ => ?_)
                  go_simp
                  refine (jp_save (HA.out.below ((Below.refl _ _).drew)) ss).mono ?_
                  rintro e w5 ⟨rfl, A5, hj5, ho5⟩
                  have HJ5 := Lib.hid hj5
                  have hK5 := ho5.blk HKA.out.drew hnA.out
                  clear hj5 ho5
                  refine hK_.out _ _ ?_ (fun hHeld_ => ?_)
                  · exact hK5.cell 3
                  refine go_op 7 rfl (by kernel_rfl) (fun K_ hK_ => ?_)
                  go_simp
                  refine (jq_save HJ5.out ss (by unfold maxLen; omega)).mono ?_
                  rintro e w6 ⟨rfl, B6, hj6, ho6⟩
                  have hK6 := ho6.blk hK5 hnB.out
                  have HTt := Lib.hid hj6
                  clear hj6 ho6 HJ5
                  refine hK_.out _ _ ?_ (fun hHeld_ => ?_)
                  · exact hK6.cell 3
                  refine take_op 8 (some 15) (v := ?_) rfl rfl (by kernel_rfl) (by kernel_rfl) (by kernel_rfl) (fun _ _ _ h => h) (Or.inl ⟨by rfl, ?_⟩) (by assumption) ?_
                  rotate_left
                  · intro w_ hSw_; (try dsimp only at hSw_); go_simp; (try with_reducible rfl)
                  try simp only [Act.put, List.setIfInBounds_toArray, List.set_cons_zero, List.set_cons_succ]
                  refine take_op 9 (some 16) (v := ?_) rfl rfl (by kernel_rfl) (by kernel_rfl) (by kernel_rfl) (fun _ _ _ h => h) (Or.inl ⟨by rfl, ?_⟩) (by assumption) ?_
                  rotate_left
                  · intro w_ hSw_; (try dsimp only at hSw_); go_simp; (try with_reducible rfl)
                  try simp only [Act.put, List.setIfInBounds_toArray, List.set_cons_zero, List.set_cons_succ]
                  refine wpAnyH_done (by kernel_rfl) ?_ _
                  clear hK5 hK6 hHeld hHeld_ e0 e1 e2 e3
                  revert HTt
                  generalize (saveF m j ss).1 = mt
                  generalize (saveF m j ss).2.1 = jt
                  generalize (saveF m j ss).2.2 = rt
                  intro HTt
                  as_aux_lemma =>
                    have t1 := (ref_cells HTt.out.ref).1
                    have t5 := (ref_cells HTt.out.ref).2
                    go_wp2_with fail
                    refine wp_region_held_drew (S := fun w1 => w1.cell? ⟨rb, 1, none⟩ = some (.bool mt.dead) ∧ w1.cell? ⟨rb, 5, none⟩ = some (.int .i64 mt.writes)) (by kernel_rfl) ⟨t1, t5⟩ (fun hHeld => ?_)
                    refine take_op 0 (some 193) (v := ?_) rfl rfl (by kernel_rfl) (by kernel_rfl) (by kernel_rfl) (fun _ _ _ h => h) (Or.inl ⟨by rfl, ?_⟩) (by assumption) ?_
                    rotate_left
                    · intro w_ hSw_; (try dsimp only at hSw_); go_simp; (try with_reducible rfl)
                    try simp only [Act.put, List.setIfInBounds_toArray, List.set_cons_zero, List.set_cons_succ]
                    refine take_op 1 (some 194) (v := ?_) rfl rfl (by kernel_rfl) (by kernel_rfl) (by kernel_rfl) (fun _ _ _ h => h) (Or.inl ⟨by rfl, ?_⟩) (by assumption) ?_
                    rotate_left
                    · intro w_ hSw_; (try dsimp only at hSw_); go_simp; (try with_reducible rfl)
                    try simp only [Act.put, List.setIfInBounds_toArray, List.set_cons_zero, List.set_cons_succ]
                    refine take_op 2 (some 195) (v := ?_) rfl rfl (by kernel_rfl) (by kernel_rfl) (by kernel_rfl) (fun _ _ _ h => h) (Or.inl ⟨by rfl, ?_⟩) (by assumption) ?_
                    rotate_left
                    · intro w_ hSw_; (try dsimp only at hSw_); go_simp; (try with_reducible rfl)
                    try simp only [Act.put, List.setIfInBounds_toArray, List.set_cons_zero, List.set_cons_succ]
                    refine take_op 3 (some 196) (v := ?_) rfl rfl (by kernel_rfl) (by kernel_rfl) (by kernel_rfl) (fun _ _ _ h => h) (Or.inl ⟨by rfl, ?_⟩) (by assumption) ?_
                    rotate_left
                    · intro w_ hSw_; (try dsimp only at hSw_); go_simp; (try with_reducible rfl)
                    try simp only [Act.put, List.setIfInBounds_toArray, List.set_cons_zero, List.set_cons_succ]
                    refine take_op 4 (some 197) (v := ?_) rfl rfl (by kernel_rfl) (by kernel_rfl) (by kernel_rfl) (fun _ _ _ h => h) (Or.inl ⟨by rfl, ?_⟩) (by assumption) ?_
                    rotate_left
                    · intro w_ hSw_; (try dsimp only at hSw_); go_simp; (try with_reducible rfl)
                    try simp only [Act.put, List.setIfInBounds_toArray, List.set_cons_zero, List.set_cons_succ]
                    refine take_op 5 (some 198) (v := ?_) rfl rfl (by kernel_rfl) (by kernel_rfl) (by kernel_rfl) (fun _ _ _ h => h) (Or.inl ⟨by rfl, ?_⟩) (by assumption) ?_
                    rotate_left
                    · intro w_ hSw_; (try dsimp only at hSw_); go_simp; (try with_reducible rfl)
                    try simp only [Act.put, List.setIfInBounds_toArray, List.set_cons_zero, List.set_cons_succ]
                    refine go_op 6 rfl (by kernel_rfl) (fun K_ hK_ => ?_)
                    go_simp
                    refine (same12_any (HTt.out.below ((Below.refl _ _).drew))).mono ?_
                    rintro e w8 ⟨rfl, hb8⟩
                    have HT8 := Lib.hid ((HTt.out.below ((Below.refl _ _).drew)).below hb8)
                    clear hb8 t1 t5
                    have s1 := (ref_cells HT8.out.ref).1
                    have s5 := (ref_cells HT8.out.ref).2
                    refine hK_.out _ _ ?_ (fun hHeld_ => ?_)
                    · exact ⟨s1, s5⟩
                    refine take_op 7 (some 200) (v := ?_) rfl rfl (by kernel_rfl) (by kernel_rfl) (by kernel_rfl) (fun _ _ _ h => h) (Or.inl ⟨by rfl, ?_⟩) (by assumption) ?_
                    rotate_left
                    · intro w_ hSw_; (try dsimp only at hSw_); go_simp; (try with_reducible rfl)
                    try simp only [Act.put, List.setIfInBounds_toArray, List.set_cons_zero, List.set_cons_succ]
                    refine take_op 8 (some 201) (v := ?_) rfl rfl (by kernel_rfl) (by kernel_rfl) (by kernel_rfl) (fun _ _ _ h => h) (Or.inl ⟨by rfl, ?_⟩) (by assumption) ?_
                    rotate_left
                    · intro w_ hSw_; (try dsimp only at hSw_); go_simp; (try with_reducible rfl)
                    try simp only [Act.put, List.setIfInBounds_toArray, List.set_cons_zero, List.set_cons_succ]
                    refine take_op 9 (some 202) (v := ?_) rfl rfl (by kernel_rfl) (by kernel_rfl) (by kernel_rfl) (fun _ _ _ h => h) (Or.inl ⟨by rfl, ?_⟩) (by assumption) ?_
                    rotate_left
                    · intro w_ hSw_; (try dsimp only at hSw_); go_simp; (try with_reducible rfl)
                    try simp only [Act.put, List.setIfInBounds_toArray, List.set_cons_zero, List.set_cons_succ]
                    refine take_op 10 (some 203) (v := ?_) rfl rfl (by kernel_rfl) (by kernel_rfl) (by kernel_rfl) (fun _ _ _ h => h) (Or.inl ⟨by rfl, ?_⟩) (by assumption) ?_
                    rotate_left
                    · intro w_ hSw_; (try dsimp only at hSw_); go_simp; (try with_reducible rfl)
                    try simp only [Act.put, List.setIfInBounds_toArray, List.set_cons_zero, List.set_cons_succ]
                    refine take_op 12 (some 205) (v := ?_) rfl rfl (by kernel_rfl) (by kernel_rfl) (by kernel_rfl) (fun _ _ _ h => h) (Or.inl ⟨by rfl, ?_⟩) (by assumption) ?_
                    rotate_left
                    · intro w_ hSw_; (try dsimp only at hSw_); go_simp; (try with_reducible rfl)
                    try simp only [Act.put, List.setIfInBounds_toArray, List.set_cons_zero, List.set_cons_succ]
                    refine take_op 13 (some 206) (v := ?_) rfl rfl (by kernel_rfl) (by kernel_rfl) (by kernel_rfl) (fun _ _ _ h => h) (Or.inl ⟨by rfl, ?_⟩) (by assumption) ?_
                    rotate_left
                    · intro w_ hSw_; (try dsimp only at hSw_); go_simp; (try with_reducible rfl)
                    try simp only [Act.put, List.setIfInBounds_toArray, List.set_cons_zero, List.set_cons_succ]
                    refine take_op 14 (some 207) (v := ?_) rfl rfl (by kernel_rfl) (by kernel_rfl) (by kernel_rfl) (fun _ _ _ h => h) (Or.inl ⟨by rfl, ?_⟩) (by assumption) ?_
                    rotate_left
                    · intro w_ hSw_; (try dsimp only at hSw_); go_simp; (try with_reducible rfl)
                    try simp only [Act.put, List.setIfInBounds_toArray, List.set_cons_zero, List.set_cons_succ]
                    refine take_op 15 (some 208) (v := ?_) rfl rfl (by kernel_rfl) (by kernel_rfl) (by kernel_rfl) (fun _ _ _ h => h) (Or.inl ⟨by rfl, ?_⟩) (by assumption) ?_
                    rotate_left
                    · intro w_ hSw_; (try dsimp only at hSw_); go_simp; (try with_reducible rfl)
                    try simp only [Act.put, List.setIfInBounds_toArray, List.set_cons_zero, List.set_cons_succ]
                    refine go_op 11 rfl (by kernel_rfl) (fun K_ hK_ => ?_)
                    go_simp
                    refine (dead_any b mb mt _ HT8.out.disk).mono ?_
                    rintro e w9 ⟨rfl, hw9⟩
                    have hw9 := hw9.symm
                    subst hw9
                    refine hK_.out _ _ ?_ (fun hHeld_ => ?_)
                    · exact ⟨s1, s5⟩
                    refine take_op 16 (some 209) (v := ?_) rfl rfl (by kernel_rfl) (by kernel_rfl) (by kernel_rfl) (fun _ _ _ h => h) (Or.inl ⟨by rfl, ?_⟩) (by assumption) ?_
                    rotate_left
                    · intro w_ hSw_; (try dsimp only at hSw_); go_simp; (try with_reducible rfl)
                    try simp only [Act.put, List.setIfInBounds_toArray, List.set_cons_zero, List.set_cons_succ]
                    refine take_op 17 (some 210) (v := ?_) rfl rfl (by kernel_rfl) (by kernel_rfl) (by kernel_rfl) (fun _ _ _ h => h) (Or.inl ⟨by rfl, ?_⟩) (by assumption) ?_
                    rotate_left
                    · intro w_ hSw_; (try dsimp only at hSw_); go_simp; (try with_reducible rfl)
                    try simp only [Act.put, List.setIfInBounds_toArray, List.set_cons_zero, List.set_cons_succ]
                    refine take_op 18 (some 211) (v := ?_) rfl rfl (by kernel_rfl) (by kernel_rfl) (by kernel_rfl) (fun _ _ _ h => h) (Or.inl ⟨by rfl, ?_⟩) (by assumption) ?_
                    rotate_left
                    · intro w_ hSw_; (try dsimp only at hSw_); go_simp; (try with_reducible rfl)
                    try simp only [Act.put, List.setIfInBounds_toArray, List.set_cons_zero, List.set_cons_succ]
                    refine take_op 19 (some 212) (v := ?_) rfl rfl (by kernel_rfl) (by kernel_rfl) (by kernel_rfl) (fun _ _ _ h => h) (Or.inl ⟨by rfl, ?_⟩) (by assumption) ?_
                    rotate_left
                    · intro w_ hSw_; (try dsimp only at hSw_); go_simp; (try with_reducible rfl)
                    try simp only [Act.put, List.setIfInBounds_toArray, List.set_cons_zero, List.set_cons_succ]
                    refine take_op 21 (some 214) (v := ?_) rfl rfl (by kernel_rfl) (by kernel_rfl) (by kernel_rfl) (fun _ _ _ h => h) (Or.inl ⟨by rfl, ?_⟩) (by assumption) ?_
                    rotate_left
                    · intro w_ hSw_; (try dsimp only at hSw_); go_simp; (try with_reducible rfl)
                    try simp only [Act.put, List.setIfInBounds_toArray, List.set_cons_zero, List.set_cons_succ]
                    refine take_op 22 (some 215) (v := ?_) rfl rfl (by kernel_rfl) (by kernel_rfl) (by kernel_rfl) (fun _ _ _ h => h) (Or.inl ⟨by rfl, ?_⟩) (by assumption) ?_
                    rotate_left
                    · intro w_ hSw_; (try dsimp only at hSw_); go_simp; (try with_reducible rfl)
                    try simp only [Act.put, List.setIfInBounds_toArray, List.set_cons_zero, List.set_cons_succ]
                    refine take_op 23 (some 216) (v := ?_) rfl rfl (by kernel_rfl) (by kernel_rfl) (by kernel_rfl) (fun _ _ _ h => h) (Or.inl ⟨by rfl, ?_⟩) (by assumption) ?_
                    rotate_left
                    · intro w_ hSw_; (try dsimp only at hSw_); go_simp; (try with_reducible rfl)
                    try simp only [Act.put, List.setIfInBounds_toArray, List.set_cons_zero, List.set_cons_succ]
                    refine take_op 24 (some 217) (v := ?_) rfl rfl (by kernel_rfl) (by kernel_rfl) (by kernel_rfl) (fun _ _ _ h => h) (Or.inl ⟨by rfl, ?_⟩) (by assumption) ?_
                    rotate_left
                    · intro w_ hSw_; (try dsimp only at hSw_); go_simp; (try with_reducible rfl)
                    try simp only [Act.put, List.setIfInBounds_toArray, List.set_cons_zero, List.set_cons_succ]
                    refine go_op 20 rfl (by kernel_rfl) (fun K_ hK_ => ?_)
                    go_simp
                    refine (writes_any b mb mt _ HT8.out.disk).mono ?_
                    rintro e w9 ⟨rfl, hw9⟩
                    have hw9 := hw9.symm
                    subst hw9
                    refine hK_.out _ _ ?_ (fun hHeld_ => ?_)
                    · exact ⟨s1, s5⟩
                    refine take_op 25 (some 218) (v := ?_) rfl rfl (by kernel_rfl) (by kernel_rfl) (by kernel_rfl) (fun _ _ _ h => h) (Or.inl ⟨by rfl, ?_⟩) (by assumption) ?_
                    rotate_left
                    · intro w_ hSw_; (try dsimp only at hSw_); go_simp; (try with_reducible rfl)
                    try simp only [Act.put, List.setIfInBounds_toArray, List.set_cons_zero, List.set_cons_succ]
                    refine take_op 26 (some 219) (v := ?_) rfl rfl (by kernel_rfl) (by kernel_rfl) (by kernel_rfl) (fun _ _ _ h => h) (Or.inl ⟨by rfl, ?_⟩) (by assumption) ?_
                    rotate_left
                    · intro w_ hSw_; (try dsimp only at hSw_); go_simp; (try with_reducible rfl)
                    try simp only [Act.put, List.setIfInBounds_toArray, List.set_cons_zero, List.set_cons_succ]
                    refine wpAnyH_done (by kernel_rfl) ?_ _
                    go_wp2_with fail
                    go_roundw
                    case rel => exact ⟨i + 1, _, _, _, _, by omega, by go_num, HT8.out⟩
                    case measure => simp [intOf]; omega
              · by_cases hk2 : kd = 2
                · subst hk2
                  go_wp2_with fail
                  rw [← hwa]
                  clear hwa
                  refine wp_region_held_drew (S := fun w1 => w1.cell? ⟨wr.heap.size, 1, none⟩ = some (.int .i64 nn) ∧ w1.cell? ⟨wr.heap.size, 2, none⟩ = some (.int .i64 pp)) (by kernel_rfl) ⟨e1, e2⟩ (fun hHeld => ?_)
                  refine take_op 0 (some 123) (v := ?_) rfl rfl (by kernel_rfl) (by kernel_rfl) (by kernel_rfl) (fun _ _ _ h => h) (Or.inl ⟨by rfl, ?_⟩) (by assumption) ?_
                  rotate_left
                  · intro w_ hSw_; (try dsimp only at hSw_); go_simp; (try with_reducible rfl)
                  try simp only [Act.put, List.setIfInBounds_toArray, List.set_cons_zero, List.set_cons_succ]
                  refine take_op 1 (some 124) (v := ?_) rfl rfl (by kernel_rfl) (by kernel_rfl) (by kernel_rfl) (fun _ _ _ h => h) (Or.inl ⟨by rfl, ?_⟩) (by assumption) ?_
                  rotate_left
                  · intro w_ hSw_; (try dsimp only at hSw_); go_simp; (try with_reducible rfl)
                  try simp only [Act.put, List.setIfInBounds_toArray, List.set_cons_zero, List.set_cons_succ]
                  refine take_op 2 (some 125) (v := ?_) rfl rfl (by kernel_rfl) (by kernel_rfl) (by kernel_rfl) (fun _ _ _ h => h) (Or.inl ⟨by rfl, ?_⟩) (by assumption) ?_
                  rotate_left
                  · intro w_ hSw_; (try dsimp only at hSw_); go_simp; (try with_reducible rfl)
                  try simp only [Act.put, List.setIfInBounds_toArray, List.set_cons_zero, List.set_cons_succ]
                  refine take_op 3 (some 126) (v := ?_) rfl rfl (by kernel_rfl) (by kernel_rfl) (by kernel_rfl) (fun _ _ _ h => h) (Or.inl ⟨by rfl, ?_⟩) (by assumption) ?_
                  rotate_left
                  · intro w_ hSw_; (try dsimp only at hSw_); go_simp; (try with_reducible rfl)
                  try simp only [Act.put, List.setIfInBounds_toArray, List.set_cons_zero, List.set_cons_succ]
                  refine take_op 4 (some 127) (v := ?_) rfl rfl (by kernel_rfl) (by kernel_rfl) (by kernel_rfl) (fun _ _ _ h => h) (Or.inl ⟨by rfl, ?_⟩) (by assumption) ?_
                  rotate_left
                  · intro w_ hSw_; (try dsimp only at hSw_); go_simp; (try with_reducible rfl)
                  try simp only [Act.put, List.setIfInBounds_toArray, List.set_cons_zero, List.set_cons_succ]
                  refine take_op 6 (some 129) (v := ?_) rfl rfl (by kernel_rfl) (by kernel_rfl) (by kernel_rfl) (fun _ _ _ h => h) (Or.inl ⟨by rfl, ?_⟩) (by assumption) ?_
                  rotate_left
                  · intro w_ hSw_; (try dsimp only at hSw_); go_simp; (try with_reducible rfl)
                  try simp only [Act.put, List.setIfInBounds_toArray, List.set_cons_zero, List.set_cons_succ]
                  refine take_op 7 (some 130) (v := ?_) rfl rfl (by kernel_rfl) (by kernel_rfl) (by kernel_rfl) (fun _ _ _ h => h) (Or.inl ⟨by rfl, ?_⟩) (by assumption) ?_
                  rotate_left
                  · intro w_ hSw_; (try dsimp only at hSw_); go_simp; (try with_reducible rfl)
                  try simp only [Act.put, List.setIfInBounds_toArray, List.set_cons_zero, List.set_cons_succ]
                  refine take_op 8 (some 131) (v := ?_) rfl rfl (by kernel_rfl) (by kernel_rfl) (by kernel_rfl) (fun _ _ _ h => h) (Or.inl ⟨by rfl, ?_⟩) (by assumption) ?_
                  rotate_left
                  · intro w_ hSw_; (try dsimp only at hSw_); go_simp; (try with_reducible rfl)
                  try simp only [Act.put, List.setIfInBounds_toArray, List.set_cons_zero, List.set_cons_succ]
                  refine take_op 9 (some 132) (v := ?_) rfl rfl (by kernel_rfl) (by kernel_rfl) (by kernel_rfl) (fun _ _ _ h => h) (Or.inl ⟨by rfl, ?_⟩) (by assumption) ?_
                  rotate_left
                  · intro w_ hSw_; (try dsimp only at hSw_); go_simp; (try with_reducible rfl)
                  try simp only [Act.put, List.setIfInBounds_toArray, List.set_cons_zero, List.set_cons_succ]
                  refine take_op 10 (some 133) (v := ?_) rfl rfl (by kernel_rfl) (by kernel_rfl) (by kernel_rfl) (fun _ _ _ h => h) (Or.inl ⟨by rfl, ?_⟩) (by assumption) ?_
                  rotate_left
                  · intro w_ hSw_; (try dsimp only at hSw_); go_simp; (try with_reducible rfl)
                  try simp only [Act.put, List.setIfInBounds_toArray, List.set_cons_zero, List.set_cons_succ]
                  refine go_op 5 rfl (by kernel_rfl) (fun K_ hK_ => ?_)
                  go_simp
                  refine (jp_arm (HA.out.below ((Below.refl _ _).drew)) nn pp).mono ?_
                  rintro e w5 ⟨rfl, A5, hj5, ho5⟩
                  have HJ5 := Lib.hid hj5
                  have hK5 := ho5.blk HKA.out.drew hnA.out
                  clear hj5 ho5
                  refine hK_.out _ _ ?_ (fun hHeld_ => ?_)
                  · exact ⟨hK5.cell 1, hK5.cell 2⟩
                  refine go_op 11 rfl (by kernel_rfl) (fun K_ hK_ => ?_)
                  go_simp
                  refine (jq_arm HJ5.out nn pp).mono ?_
                  rintro e w6 ⟨rfl, B6, hj6, ho6⟩
                  have hK6 := ho6.blk hK5 hnB.out
                  have HTt := Lib.hid hj6
                  clear hj6 ho6 HJ5
                  refine hK_.out _ _ ?_ (fun hHeld_ => ?_)
                  · exact ⟨hK6.cell 1, hK6.cell 2⟩
                  refine take_op 12 (some 15) (v := ?_) rfl rfl (by kernel_rfl) (by kernel_rfl) (by kernel_rfl) (fun _ _ _ h => h) (Or.inl ⟨by rfl, ?_⟩) (by assumption) ?_
                  rotate_left
                  · intro w_ hSw_; (try dsimp only at hSw_); go_simp; (try with_reducible rfl)
                  try simp only [Act.put, List.setIfInBounds_toArray, List.set_cons_zero, List.set_cons_succ]
                  refine take_op 13 (some 16) (v := ?_) rfl rfl (by kernel_rfl) (by kernel_rfl) (by kernel_rfl) (fun _ _ _ h => h) (Or.inl ⟨by rfl, ?_⟩) (by assumption) ?_
                  rotate_left
                  · intro w_ hSw_; (try dsimp only at hSw_); go_simp; (try with_reducible rfl)
                  try simp only [Act.put, List.setIfInBounds_toArray, List.set_cons_zero, List.set_cons_succ]
                  refine wpAnyH_done (by kernel_rfl) ?_ _
                  clear hK5 hK6 hHeld hHeld_ e0 e1 e2 e3
                  revert HTt
                  generalize (m.arm nn pp).1 = mt
                  generalize (m.arm nn pp).2 = rt
                  intro HTt
                  as_aux_lemma =>
                    have t1 := (ref_cells HTt.out.ref).1
                    have t5 := (ref_cells HTt.out.ref).2
                    go_wp2_with fail
                    refine wp_region_held_drew (S := fun w1 => w1.cell? ⟨rb, 1, none⟩ = some (.bool mt.dead) ∧ w1.cell? ⟨rb, 5, none⟩ = some (.int .i64 mt.writes)) (by kernel_rfl) ⟨t1, t5⟩ (fun hHeld => ?_)
                    refine take_op 0 (some 193) (v := ?_) rfl rfl (by kernel_rfl) (by kernel_rfl) (by kernel_rfl) (fun _ _ _ h => h) (Or.inl ⟨by rfl, ?_⟩) (by assumption) ?_
                    rotate_left
                    · intro w_ hSw_; (try dsimp only at hSw_); go_simp; (try with_reducible rfl)
                    try simp only [Act.put, List.setIfInBounds_toArray, List.set_cons_zero, List.set_cons_succ]
                    refine take_op 1 (some 194) (v := ?_) rfl rfl (by kernel_rfl) (by kernel_rfl) (by kernel_rfl) (fun _ _ _ h => h) (Or.inl ⟨by rfl, ?_⟩) (by assumption) ?_
                    rotate_left
                    · intro w_ hSw_; (try dsimp only at hSw_); go_simp; (try with_reducible rfl)
                    try simp only [Act.put, List.setIfInBounds_toArray, List.set_cons_zero, List.set_cons_succ]
                    refine take_op 2 (some 195) (v := ?_) rfl rfl (by kernel_rfl) (by kernel_rfl) (by kernel_rfl) (fun _ _ _ h => h) (Or.inl ⟨by rfl, ?_⟩) (by assumption) ?_
                    rotate_left
                    · intro w_ hSw_; (try dsimp only at hSw_); go_simp; (try with_reducible rfl)
                    try simp only [Act.put, List.setIfInBounds_toArray, List.set_cons_zero, List.set_cons_succ]
                    refine take_op 3 (some 196) (v := ?_) rfl rfl (by kernel_rfl) (by kernel_rfl) (by kernel_rfl) (fun _ _ _ h => h) (Or.inl ⟨by rfl, ?_⟩) (by assumption) ?_
                    rotate_left
                    · intro w_ hSw_; (try dsimp only at hSw_); go_simp; (try with_reducible rfl)
                    try simp only [Act.put, List.setIfInBounds_toArray, List.set_cons_zero, List.set_cons_succ]
                    refine take_op 4 (some 197) (v := ?_) rfl rfl (by kernel_rfl) (by kernel_rfl) (by kernel_rfl) (fun _ _ _ h => h) (Or.inl ⟨by rfl, ?_⟩) (by assumption) ?_
                    rotate_left
                    · intro w_ hSw_; (try dsimp only at hSw_); go_simp; (try with_reducible rfl)
                    try simp only [Act.put, List.setIfInBounds_toArray, List.set_cons_zero, List.set_cons_succ]
                    refine take_op 5 (some 198) (v := ?_) rfl rfl (by kernel_rfl) (by kernel_rfl) (by kernel_rfl) (fun _ _ _ h => h) (Or.inl ⟨by rfl, ?_⟩) (by assumption) ?_
                    rotate_left
                    · intro w_ hSw_; (try dsimp only at hSw_); go_simp; (try with_reducible rfl)
                    try simp only [Act.put, List.setIfInBounds_toArray, List.set_cons_zero, List.set_cons_succ]
                    refine go_op 6 rfl (by kernel_rfl) (fun K_ hK_ => ?_)
                    go_simp
                    refine (same12_any (HTt.out.below ((Below.refl _ _).drew))).mono ?_
                    rintro e w8 ⟨rfl, hb8⟩
                    have HT8 := Lib.hid ((HTt.out.below ((Below.refl _ _).drew)).below hb8)
                    clear hb8 t1 t5
                    have s1 := (ref_cells HT8.out.ref).1
                    have s5 := (ref_cells HT8.out.ref).2
                    refine hK_.out _ _ ?_ (fun hHeld_ => ?_)
                    · exact ⟨s1, s5⟩
                    refine take_op 7 (some 200) (v := ?_) rfl rfl (by kernel_rfl) (by kernel_rfl) (by kernel_rfl) (fun _ _ _ h => h) (Or.inl ⟨by rfl, ?_⟩) (by assumption) ?_
                    rotate_left
                    · intro w_ hSw_; (try dsimp only at hSw_); go_simp; (try with_reducible rfl)
                    try simp only [Act.put, List.setIfInBounds_toArray, List.set_cons_zero, List.set_cons_succ]
                    refine take_op 8 (some 201) (v := ?_) rfl rfl (by kernel_rfl) (by kernel_rfl) (by kernel_rfl) (fun _ _ _ h => h) (Or.inl ⟨by rfl, ?_⟩) (by assumption) ?_
                    rotate_left
                    · intro w_ hSw_; (try dsimp only at hSw_); go_simp; (try with_reducible rfl)
                    try simp only [Act.put, List.setIfInBounds_toArray, List.set_cons_zero, List.set_cons_succ]
                    refine take_op 9 (some 202) (v := ?_) rfl rfl (by kernel_rfl) (by kernel_rfl) (by kernel_rfl) (fun _ _ _ h => h) (Or.inl ⟨by rfl, ?_⟩) (by assumption) ?_
                    rotate_left
                    · intro w_ hSw_; (try dsimp only at hSw_); go_simp; (try with_reducible rfl)
                    try simp only [Act.put, List.setIfInBounds_toArray, List.set_cons_zero, List.set_cons_succ]
                    refine take_op 10 (some 203) (v := ?_) rfl rfl (by kernel_rfl) (by kernel_rfl) (by kernel_rfl) (fun _ _ _ h => h) (Or.inl ⟨by rfl, ?_⟩) (by assumption) ?_
                    rotate_left
                    · intro w_ hSw_; (try dsimp only at hSw_); go_simp; (try with_reducible rfl)
                    try simp only [Act.put, List.setIfInBounds_toArray, List.set_cons_zero, List.set_cons_succ]
                    refine take_op 12 (some 205) (v := ?_) rfl rfl (by kernel_rfl) (by kernel_rfl) (by kernel_rfl) (fun _ _ _ h => h) (Or.inl ⟨by rfl, ?_⟩) (by assumption) ?_
                    rotate_left
                    · intro w_ hSw_; (try dsimp only at hSw_); go_simp; (try with_reducible rfl)
                    try simp only [Act.put, List.setIfInBounds_toArray, List.set_cons_zero, List.set_cons_succ]
                    refine take_op 13 (some 206) (v := ?_) rfl rfl (by kernel_rfl) (by kernel_rfl) (by kernel_rfl) (fun _ _ _ h => h) (Or.inl ⟨by rfl, ?_⟩) (by assumption) ?_
                    rotate_left
                    · intro w_ hSw_; (try dsimp only at hSw_); go_simp; (try with_reducible rfl)
                    try simp only [Act.put, List.setIfInBounds_toArray, List.set_cons_zero, List.set_cons_succ]
                    refine take_op 14 (some 207) (v := ?_) rfl rfl (by kernel_rfl) (by kernel_rfl) (by kernel_rfl) (fun _ _ _ h => h) (Or.inl ⟨by rfl, ?_⟩) (by assumption) ?_
                    rotate_left
                    · intro w_ hSw_; (try dsimp only at hSw_); go_simp; (try with_reducible rfl)
                    try simp only [Act.put, List.setIfInBounds_toArray, List.set_cons_zero, List.set_cons_succ]
                    refine take_op 15 (some 208) (v := ?_) rfl rfl (by kernel_rfl) (by kernel_rfl) (by kernel_rfl) (fun _ _ _ h => h) (Or.inl ⟨by rfl, ?_⟩) (by assumption) ?_
                    rotate_left
                    · intro w_ hSw_; (try dsimp only at hSw_); go_simp; (try with_reducible rfl)
                    try simp only [Act.put, List.setIfInBounds_toArray, List.set_cons_zero, List.set_cons_succ]
                    refine go_op 11 rfl (by kernel_rfl) (fun K_ hK_ => ?_)
                    go_simp
                    refine (dead_any b mb mt _ HT8.out.disk).mono ?_
                    rintro e w9 ⟨rfl, hw9⟩
                    have hw9 := hw9.symm
                    subst hw9
                    refine hK_.out _ _ ?_ (fun hHeld_ => ?_)
                    · exact ⟨s1, s5⟩
                    refine take_op 16 (some 209) (v := ?_) rfl rfl (by kernel_rfl) (by kernel_rfl) (by kernel_rfl) (fun _ _ _ h => h) (Or.inl ⟨by rfl, ?_⟩) (by assumption) ?_
                    rotate_left
                    · intro w_ hSw_; (try dsimp only at hSw_); go_simp; (try with_reducible rfl)
                    try simp only [Act.put, List.setIfInBounds_toArray, List.set_cons_zero, List.set_cons_succ]
                    refine take_op 17 (some 210) (v := ?_) rfl rfl (by kernel_rfl) (by kernel_rfl) (by kernel_rfl) (fun _ _ _ h => h) (Or.inl ⟨by rfl, ?_⟩) (by assumption) ?_
                    rotate_left
                    · intro w_ hSw_; (try dsimp only at hSw_); go_simp; (try with_reducible rfl)
                    try simp only [Act.put, List.setIfInBounds_toArray, List.set_cons_zero, List.set_cons_succ]
                    refine take_op 18 (some 211) (v := ?_) rfl rfl (by kernel_rfl) (by kernel_rfl) (by kernel_rfl) (fun _ _ _ h => h) (Or.inl ⟨by rfl, ?_⟩) (by assumption) ?_
                    rotate_left
                    · intro w_ hSw_; (try dsimp only at hSw_); go_simp; (try with_reducible rfl)
                    try simp only [Act.put, List.setIfInBounds_toArray, List.set_cons_zero, List.set_cons_succ]
                    refine take_op 19 (some 212) (v := ?_) rfl rfl (by kernel_rfl) (by kernel_rfl) (by kernel_rfl) (fun _ _ _ h => h) (Or.inl ⟨by rfl, ?_⟩) (by assumption) ?_
                    rotate_left
                    · intro w_ hSw_; (try dsimp only at hSw_); go_simp; (try with_reducible rfl)
                    try simp only [Act.put, List.setIfInBounds_toArray, List.set_cons_zero, List.set_cons_succ]
                    refine take_op 21 (some 214) (v := ?_) rfl rfl (by kernel_rfl) (by kernel_rfl) (by kernel_rfl) (fun _ _ _ h => h) (Or.inl ⟨by rfl, ?_⟩) (by assumption) ?_
                    rotate_left
                    · intro w_ hSw_; (try dsimp only at hSw_); go_simp; (try with_reducible rfl)
                    try simp only [Act.put, List.setIfInBounds_toArray, List.set_cons_zero, List.set_cons_succ]
                    refine take_op 22 (some 215) (v := ?_) rfl rfl (by kernel_rfl) (by kernel_rfl) (by kernel_rfl) (fun _ _ _ h => h) (Or.inl ⟨by rfl, ?_⟩) (by assumption) ?_
                    rotate_left
                    · intro w_ hSw_; (try dsimp only at hSw_); go_simp; (try with_reducible rfl)
                    try simp only [Act.put, List.setIfInBounds_toArray, List.set_cons_zero, List.set_cons_succ]
                    refine take_op 23 (some 216) (v := ?_) rfl rfl (by kernel_rfl) (by kernel_rfl) (by kernel_rfl) (fun _ _ _ h => h) (Or.inl ⟨by rfl, ?_⟩) (by assumption) ?_
                    rotate_left
                    · intro w_ hSw_; (try dsimp only at hSw_); go_simp; (try with_reducible rfl)
                    try simp only [Act.put, List.setIfInBounds_toArray, List.set_cons_zero, List.set_cons_succ]
                    refine take_op 24 (some 217) (v := ?_) rfl rfl (by kernel_rfl) (by kernel_rfl) (by kernel_rfl) (fun _ _ _ h => h) (Or.inl ⟨by rfl, ?_⟩) (by assumption) ?_
                    rotate_left
                    · intro w_ hSw_; (try dsimp only at hSw_); go_simp; (try with_reducible rfl)
                    try simp only [Act.put, List.setIfInBounds_toArray, List.set_cons_zero, List.set_cons_succ]
                    refine go_op 20 rfl (by kernel_rfl) (fun K_ hK_ => ?_)
                    go_simp
                    refine (writes_any b mb mt _ HT8.out.disk).mono ?_
                    rintro e w9 ⟨rfl, hw9⟩
                    have hw9 := hw9.symm
                    subst hw9
                    refine hK_.out _ _ ?_ (fun hHeld_ => ?_)
                    · exact ⟨s1, s5⟩
                    refine take_op 25 (some 218) (v := ?_) rfl rfl (by kernel_rfl) (by kernel_rfl) (by kernel_rfl) (fun _ _ _ h => h) (Or.inl ⟨by rfl, ?_⟩) (by assumption) ?_
                    rotate_left
                    · intro w_ hSw_; (try dsimp only at hSw_); go_simp; (try with_reducible rfl)
                    try simp only [Act.put, List.setIfInBounds_toArray, List.set_cons_zero, List.set_cons_succ]
                    refine take_op 26 (some 219) (v := ?_) rfl rfl (by kernel_rfl) (by kernel_rfl) (by kernel_rfl) (fun _ _ _ h => h) (Or.inl ⟨by rfl, ?_⟩) (by assumption) ?_
                    rotate_left
                    · intro w_ hSw_; (try dsimp only at hSw_); go_simp; (try with_reducible rfl)
                    try simp only [Act.put, List.setIfInBounds_toArray, List.set_cons_zero, List.set_cons_succ]
                    refine wpAnyH_done (by kernel_rfl) ?_ _
                    go_wp2_with fail
                    go_roundw
                    case rel => exact ⟨i + 1, _, _, _, _, by omega, by go_num, HT8.out⟩
                    case measure => simp [intOf]; omega
                · by_cases hk3 : kd = 3
                  · subst hk3
                    go_wp2_with fail
                    rw [← hwa]
                    clear hwa
                    clear e0 e1 e2 e3
                    refine (jp_start HA.out).mono ?_
                    rintro e w5 ⟨rfl, A5, hj5, _⟩
                    have HJ5 := Lib.hid hj5
                    clear hj5
                    go_wp2_with fail
                    refine (jq_start HJ5.out).mono ?_
                    rintro e w6 ⟨rfl, B6, hj6, _⟩
                    have HJ6 := Lib.hid hj6
                    clear hj6
                    obtain ⟨mt, hmt⟩ : ∃ mt, mt = m.start := ⟨_, rfl⟩
                    rw [← hmt] at HJ6
                    clear hmt
                    go_wp2_with fail
                    refine (jp_open HJ6.out).mono ?_
                    rintro e w7 ⟨x7, A7, rfl, hj7, _⟩
                    have HJ7 := Lib.hid hj7
                    clear hj7
                    go_wp2_with fail
                    refine (jq_open HJ7.out).mono ?_
                    rintro e w8 ⟨y8, B8, rfl, hj8, _⟩
                    have HTt := Lib.hid hj8
                    clear hj8 HJ5 HJ6 HJ7
                    revert HTt
                    generalize (openF mt).1 = jt
                    generalize (openF mt).2 = rt
                    intro HTt
                    as_aux_lemma =>
                      have t1 := (ref_cells HTt.out.ref).1
                      have t5 := (ref_cells HTt.out.ref).2
                      go_wp2_with fail
                      refine wp_region_held_drew (S := fun w1 => w1.cell? ⟨rb, 1, none⟩ = some (.bool mt.dead) ∧ w1.cell? ⟨rb, 5, none⟩ = some (.int .i64 mt.writes)) (by kernel_rfl) ⟨t1, t5⟩ (fun hHeld => ?_)
                      refine take_op 0 (some 193) (v := ?_) rfl rfl (by kernel_rfl) (by kernel_rfl) (by kernel_rfl) (fun _ _ _ h => h) (Or.inl ⟨by rfl, ?_⟩) (by assumption) ?_
                      rotate_left
                      · intro w_ hSw_; (try dsimp only at hSw_); go_simp; (try with_reducible rfl)
                      try simp only [Act.put, List.setIfInBounds_toArray, List.set_cons_zero, List.set_cons_succ]
                      refine take_op 1 (some 194) (v := ?_) rfl rfl (by kernel_rfl) (by kernel_rfl) (by kernel_rfl) (fun _ _ _ h => h) (Or.inl ⟨by rfl, ?_⟩) (by assumption) ?_
                      rotate_left
                      · intro w_ hSw_; (try dsimp only at hSw_); go_simp; (try with_reducible rfl)
                      try simp only [Act.put, List.setIfInBounds_toArray, List.set_cons_zero, List.set_cons_succ]
                      refine take_op 2 (some 195) (v := ?_) rfl rfl (by kernel_rfl) (by kernel_rfl) (by kernel_rfl) (fun _ _ _ h => h) (Or.inl ⟨by rfl, ?_⟩) (by assumption) ?_
                      rotate_left
                      · intro w_ hSw_; (try dsimp only at hSw_); go_simp; (try with_reducible rfl)
                      try simp only [Act.put, List.setIfInBounds_toArray, List.set_cons_zero, List.set_cons_succ]
                      refine take_op 3 (some 196) (v := ?_) rfl rfl (by kernel_rfl) (by kernel_rfl) (by kernel_rfl) (fun _ _ _ h => h) (Or.inl ⟨by rfl, ?_⟩) (by assumption) ?_
                      rotate_left
                      · intro w_ hSw_; (try dsimp only at hSw_); go_simp; (try with_reducible rfl)
                      try simp only [Act.put, List.setIfInBounds_toArray, List.set_cons_zero, List.set_cons_succ]
                      refine take_op 4 (some 197) (v := ?_) rfl rfl (by kernel_rfl) (by kernel_rfl) (by kernel_rfl) (fun _ _ _ h => h) (Or.inl ⟨by rfl, ?_⟩) (by assumption) ?_
                      rotate_left
                      · intro w_ hSw_; (try dsimp only at hSw_); go_simp; (try with_reducible rfl)
                      try simp only [Act.put, List.setIfInBounds_toArray, List.set_cons_zero, List.set_cons_succ]
                      refine take_op 5 (some 198) (v := ?_) rfl rfl (by kernel_rfl) (by kernel_rfl) (by kernel_rfl) (fun _ _ _ h => h) (Or.inl ⟨by rfl, ?_⟩) (by assumption) ?_
                      rotate_left
                      · intro w_ hSw_; (try dsimp only at hSw_); go_simp; (try with_reducible rfl)
                      try simp only [Act.put, List.setIfInBounds_toArray, List.set_cons_zero, List.set_cons_succ]
                      refine go_op 6 rfl (by kernel_rfl) (fun K_ hK_ => ?_)
                      go_simp
                      refine (same12_any (HTt.out.below ((Below.refl _ _).drew))).mono ?_
                      rintro e w8 ⟨rfl, hb8⟩
                      have HT8 := Lib.hid ((HTt.out.below ((Below.refl _ _).drew)).below hb8)
                      clear hb8 t1 t5
                      have s1 := (ref_cells HT8.out.ref).1
                      have s5 := (ref_cells HT8.out.ref).2
                      refine hK_.out _ _ ?_ (fun hHeld_ => ?_)
                      · exact ⟨s1, s5⟩
                      refine take_op 7 (some 200) (v := ?_) rfl rfl (by kernel_rfl) (by kernel_rfl) (by kernel_rfl) (fun _ _ _ h => h) (Or.inl ⟨by rfl, ?_⟩) (by assumption) ?_
                      rotate_left
                      · intro w_ hSw_; (try dsimp only at hSw_); go_simp; (try with_reducible rfl)
                      try simp only [Act.put, List.setIfInBounds_toArray, List.set_cons_zero, List.set_cons_succ]
                      refine take_op 8 (some 201) (v := ?_) rfl rfl (by kernel_rfl) (by kernel_rfl) (by kernel_rfl) (fun _ _ _ h => h) (Or.inl ⟨by rfl, ?_⟩) (by assumption) ?_
                      rotate_left
                      · intro w_ hSw_; (try dsimp only at hSw_); go_simp; (try with_reducible rfl)
                      try simp only [Act.put, List.setIfInBounds_toArray, List.set_cons_zero, List.set_cons_succ]
                      refine take_op 9 (some 202) (v := ?_) rfl rfl (by kernel_rfl) (by kernel_rfl) (by kernel_rfl) (fun _ _ _ h => h) (Or.inl ⟨by rfl, ?_⟩) (by assumption) ?_
                      rotate_left
                      · intro w_ hSw_; (try dsimp only at hSw_); go_simp; (try with_reducible rfl)
                      try simp only [Act.put, List.setIfInBounds_toArray, List.set_cons_zero, List.set_cons_succ]
                      refine take_op 10 (some 203) (v := ?_) rfl rfl (by kernel_rfl) (by kernel_rfl) (by kernel_rfl) (fun _ _ _ h => h) (Or.inl ⟨by rfl, ?_⟩) (by assumption) ?_
                      rotate_left
                      · intro w_ hSw_; (try dsimp only at hSw_); go_simp; (try with_reducible rfl)
                      try simp only [Act.put, List.setIfInBounds_toArray, List.set_cons_zero, List.set_cons_succ]
                      refine take_op 12 (some 205) (v := ?_) rfl rfl (by kernel_rfl) (by kernel_rfl) (by kernel_rfl) (fun _ _ _ h => h) (Or.inl ⟨by rfl, ?_⟩) (by assumption) ?_
                      rotate_left
                      · intro w_ hSw_; (try dsimp only at hSw_); go_simp; (try with_reducible rfl)
                      try simp only [Act.put, List.setIfInBounds_toArray, List.set_cons_zero, List.set_cons_succ]
                      refine take_op 13 (some 206) (v := ?_) rfl rfl (by kernel_rfl) (by kernel_rfl) (by kernel_rfl) (fun _ _ _ h => h) (Or.inl ⟨by rfl, ?_⟩) (by assumption) ?_
                      rotate_left
                      · intro w_ hSw_; (try dsimp only at hSw_); go_simp; (try with_reducible rfl)
                      try simp only [Act.put, List.setIfInBounds_toArray, List.set_cons_zero, List.set_cons_succ]
                      refine take_op 14 (some 207) (v := ?_) rfl rfl (by kernel_rfl) (by kernel_rfl) (by kernel_rfl) (fun _ _ _ h => h) (Or.inl ⟨by rfl, ?_⟩) (by assumption) ?_
                      rotate_left
                      · intro w_ hSw_; (try dsimp only at hSw_); go_simp; (try with_reducible rfl)
                      try simp only [Act.put, List.setIfInBounds_toArray, List.set_cons_zero, List.set_cons_succ]
                      refine take_op 15 (some 208) (v := ?_) rfl rfl (by kernel_rfl) (by kernel_rfl) (by kernel_rfl) (fun _ _ _ h => h) (Or.inl ⟨by rfl, ?_⟩) (by assumption) ?_
                      rotate_left
                      · intro w_ hSw_; (try dsimp only at hSw_); go_simp; (try with_reducible rfl)
                      try simp only [Act.put, List.setIfInBounds_toArray, List.set_cons_zero, List.set_cons_succ]
                      refine go_op 11 rfl (by kernel_rfl) (fun K_ hK_ => ?_)
                      go_simp
                      refine (dead_any b mb mt _ HT8.out.disk).mono ?_
                      rintro e w9 ⟨rfl, hw9⟩
                      have hw9 := hw9.symm
                      subst hw9
                      refine hK_.out _ _ ?_ (fun hHeld_ => ?_)
                      · exact ⟨s1, s5⟩
                      refine take_op 16 (some 209) (v := ?_) rfl rfl (by kernel_rfl) (by kernel_rfl) (by kernel_rfl) (fun _ _ _ h => h) (Or.inl ⟨by rfl, ?_⟩) (by assumption) ?_
                      rotate_left
                      · intro w_ hSw_; (try dsimp only at hSw_); go_simp; (try with_reducible rfl)
                      try simp only [Act.put, List.setIfInBounds_toArray, List.set_cons_zero, List.set_cons_succ]
                      refine take_op 17 (some 210) (v := ?_) rfl rfl (by kernel_rfl) (by kernel_rfl) (by kernel_rfl) (fun _ _ _ h => h) (Or.inl ⟨by rfl, ?_⟩) (by assumption) ?_
                      rotate_left
                      · intro w_ hSw_; (try dsimp only at hSw_); go_simp; (try with_reducible rfl)
                      try simp only [Act.put, List.setIfInBounds_toArray, List.set_cons_zero, List.set_cons_succ]
                      refine take_op 18 (some 211) (v := ?_) rfl rfl (by kernel_rfl) (by kernel_rfl) (by kernel_rfl) (fun _ _ _ h => h) (Or.inl ⟨by rfl, ?_⟩) (by assumption) ?_
                      rotate_left
                      · intro w_ hSw_; (try dsimp only at hSw_); go_simp; (try with_reducible rfl)
                      try simp only [Act.put, List.setIfInBounds_toArray, List.set_cons_zero, List.set_cons_succ]
                      refine take_op 19 (some 212) (v := ?_) rfl rfl (by kernel_rfl) (by kernel_rfl) (by kernel_rfl) (fun _ _ _ h => h) (Or.inl ⟨by rfl, ?_⟩) (by assumption) ?_
                      rotate_left
                      · intro w_ hSw_; (try dsimp only at hSw_); go_simp; (try with_reducible rfl)
                      try simp only [Act.put, List.setIfInBounds_toArray, List.set_cons_zero, List.set_cons_succ]
                      refine take_op 21 (some 214) (v := ?_) rfl rfl (by kernel_rfl) (by kernel_rfl) (by kernel_rfl) (fun _ _ _ h => h) (Or.inl ⟨by rfl, ?_⟩) (by assumption) ?_
                      rotate_left
                      · intro w_ hSw_; (try dsimp only at hSw_); go_simp; (try with_reducible rfl)
                      try simp only [Act.put, List.setIfInBounds_toArray, List.set_cons_zero, List.set_cons_succ]
                      refine take_op 22 (some 215) (v := ?_) rfl rfl (by kernel_rfl) (by kernel_rfl) (by kernel_rfl) (fun _ _ _ h => h) (Or.inl ⟨by rfl, ?_⟩) (by assumption) ?_
                      rotate_left
                      · intro w_ hSw_; (try dsimp only at hSw_); go_simp; (try with_reducible rfl)
                      try simp only [Act.put, List.setIfInBounds_toArray, List.set_cons_zero, List.set_cons_succ]
                      refine take_op 23 (some 216) (v := ?_) rfl rfl (by kernel_rfl) (by kernel_rfl) (by kernel_rfl) (fun _ _ _ h => h) (Or.inl ⟨by rfl, ?_⟩) (by assumption) ?_
                      rotate_left
                      · intro w_ hSw_; (try dsimp only at hSw_); go_simp; (try with_reducible rfl)
                      try simp only [Act.put, List.setIfInBounds_toArray, List.set_cons_zero, List.set_cons_succ]
                      refine take_op 24 (some 217) (v := ?_) rfl rfl (by kernel_rfl) (by kernel_rfl) (by kernel_rfl) (fun _ _ _ h => h) (Or.inl ⟨by rfl, ?_⟩) (by assumption) ?_
                      rotate_left
                      · intro w_ hSw_; (try dsimp only at hSw_); go_simp; (try with_reducible rfl)
                      try simp only [Act.put, List.setIfInBounds_toArray, List.set_cons_zero, List.set_cons_succ]
                      refine go_op 20 rfl (by kernel_rfl) (fun K_ hK_ => ?_)
                      go_simp
                      refine (writes_any b mb mt _ HT8.out.disk).mono ?_
                      rintro e w9 ⟨rfl, hw9⟩
                      have hw9 := hw9.symm
                      subst hw9
                      refine hK_.out _ _ ?_ (fun hHeld_ => ?_)
                      · exact ⟨s1, s5⟩
                      refine take_op 25 (some 218) (v := ?_) rfl rfl (by kernel_rfl) (by kernel_rfl) (by kernel_rfl) (fun _ _ _ h => h) (Or.inl ⟨by rfl, ?_⟩) (by assumption) ?_
                      rotate_left
                      · intro w_ hSw_; (try dsimp only at hSw_); go_simp; (try with_reducible rfl)
                      try simp only [Act.put, List.setIfInBounds_toArray, List.set_cons_zero, List.set_cons_succ]
                      refine take_op 26 (some 219) (v := ?_) rfl rfl (by kernel_rfl) (by kernel_rfl) (by kernel_rfl) (fun _ _ _ h => h) (Or.inl ⟨by rfl, ?_⟩) (by assumption) ?_
                      rotate_left
                      · intro w_ hSw_; (try dsimp only at hSw_); go_simp; (try with_reducible rfl)
                      try simp only [Act.put, List.setIfInBounds_toArray, List.set_cons_zero, List.set_cons_succ]
                      refine wpAnyH_done (by kernel_rfl) ?_ _
                      go_wp2_with fail
                      go_roundw
                      case rel => exact ⟨i + 1, _, _, _, _, by omega, by go_num, HT8.out⟩
                      case measure => simp [intOf]; omega
                  · by_cases hk4 : kd = 4
                    · subst hk4
                      go_wp2_with fail
                      rw [← hwa]
                      clear hwa
                      refine (jp_format HA.out ss).mono ?_
                      rintro e w5 ⟨x5, A5, rfl, hj5, ho5⟩
                      have hK5 := ho5.blk HKA.out hnA.out
                      have z3 : w5.cell? ⟨wr.heap.size, 3, none⟩ = some (.string ss) := hK5.cell 3
                      have HJ5 := Lib.hid hj5
                      clear hj5 hK5 ho5 e0 e1 e2 e3
                      go_wp2_with fail
                      refine (jq_format HJ5.out ss (by unfold maxLen; omega)).mono ?_
                      rintro e w6 ⟨y6, B6, rfl, hj6, _⟩
                      have HTt := Lib.hid hj6
                      clear hj6 HJ5 z3
                      revert HTt
                      generalize (formatF m ss).1 = mt
                      generalize (formatF m ss).2.1 = jt
                      generalize (formatF m ss).2.2 = rt
                      intro HTt
                      as_aux_lemma =>
                        have t1 := (ref_cells HTt.out.ref).1
                        have t5 := (ref_cells HTt.out.ref).2
                        go_wp2_with fail
                        refine wp_region_held_drew (S := fun w1 => w1.cell? ⟨rb, 1, none⟩ = some (.bool mt.dead) ∧ w1.cell? ⟨rb, 5, none⟩ = some (.int .i64 mt.writes)) (by kernel_rfl) ⟨t1, t5⟩ (fun hHeld => ?_)
                        refine take_op 0 (some 193) (v := ?_) rfl rfl (by kernel_rfl) (by kernel_rfl) (by kernel_rfl) (fun _ _ _ h => h) (Or.inl ⟨by rfl, ?_⟩) (by assumption) ?_
                        rotate_left
                        · intro w_ hSw_; (try dsimp only at hSw_); go_simp; (try with_reducible rfl)
                        try simp only [Act.put, List.setIfInBounds_toArray, List.set_cons_zero, List.set_cons_succ]
                        refine take_op 1 (some 194) (v := ?_) rfl rfl (by kernel_rfl) (by kernel_rfl) (by kernel_rfl) (fun _ _ _ h => h) (Or.inl ⟨by rfl, ?_⟩) (by assumption) ?_
                        rotate_left
                        · intro w_ hSw_; (try dsimp only at hSw_); go_simp; (try with_reducible rfl)
                        try simp only [Act.put, List.setIfInBounds_toArray, List.set_cons_zero, List.set_cons_succ]
                        refine take_op 2 (some 195) (v := ?_) rfl rfl (by kernel_rfl) (by kernel_rfl) (by kernel_rfl) (fun _ _ _ h => h) (Or.inl ⟨by rfl, ?_⟩) (by assumption) ?_
                        rotate_left
                        · intro w_ hSw_; (try dsimp only at hSw_); go_simp; (try with_reducible rfl)
                        try simp only [Act.put, List.setIfInBounds_toArray, List.set_cons_zero, List.set_cons_succ]
                        refine take_op 3 (some 196) (v := ?_) rfl rfl (by kernel_rfl) (by kernel_rfl) (by kernel_rfl) (fun _ _ _ h => h) (Or.inl ⟨by rfl, ?_⟩) (by assumption) ?_
                        rotate_left
                        · intro w_ hSw_; (try dsimp only at hSw_); go_simp; (try with_reducible rfl)
                        try simp only [Act.put, List.setIfInBounds_toArray, List.set_cons_zero, List.set_cons_succ]
                        refine take_op 4 (some 197) (v := ?_) rfl rfl (by kernel_rfl) (by kernel_rfl) (by kernel_rfl) (fun _ _ _ h => h) (Or.inl ⟨by rfl, ?_⟩) (by assumption) ?_
                        rotate_left
                        · intro w_ hSw_; (try dsimp only at hSw_); go_simp; (try with_reducible rfl)
                        try simp only [Act.put, List.setIfInBounds_toArray, List.set_cons_zero, List.set_cons_succ]
                        refine take_op 5 (some 198) (v := ?_) rfl rfl (by kernel_rfl) (by kernel_rfl) (by kernel_rfl) (fun _ _ _ h => h) (Or.inl ⟨by rfl, ?_⟩) (by assumption) ?_
                        rotate_left
                        · intro w_ hSw_; (try dsimp only at hSw_); go_simp; (try with_reducible rfl)
                        try simp only [Act.put, List.setIfInBounds_toArray, List.set_cons_zero, List.set_cons_succ]
                        refine go_op 6 rfl (by kernel_rfl) (fun K_ hK_ => ?_)
                        go_simp
                        refine (same12_any (HTt.out.below ((Below.refl _ _).drew))).mono ?_
                        rintro e w8 ⟨rfl, hb8⟩
                        have HT8 := Lib.hid ((HTt.out.below ((Below.refl _ _).drew)).below hb8)
                        clear hb8 t1 t5
                        have s1 := (ref_cells HT8.out.ref).1
                        have s5 := (ref_cells HT8.out.ref).2
                        refine hK_.out _ _ ?_ (fun hHeld_ => ?_)
                        · exact ⟨s1, s5⟩
                        refine take_op 7 (some 200) (v := ?_) rfl rfl (by kernel_rfl) (by kernel_rfl) (by kernel_rfl) (fun _ _ _ h => h) (Or.inl ⟨by rfl, ?_⟩) (by assumption) ?_
                        rotate_left
                        · intro w_ hSw_; (try dsimp only at hSw_); go_simp; (try with_reducible rfl)
                        try simp only [Act.put, List.setIfInBounds_toArray, List.set_cons_zero, List.set_cons_succ]
                        refine take_op 8 (some 201) (v := ?_) rfl rfl (by kernel_rfl) (by kernel_rfl) (by kernel_rfl) (fun _ _ _ h => h) (Or.inl ⟨by rfl, ?_⟩) (by assumption) ?_
                        rotate_left
                        · intro w_ hSw_; (try dsimp only at hSw_); go_simp; (try with_reducible rfl)
                        try simp only [Act.put, List.setIfInBounds_toArray, List.set_cons_zero, List.set_cons_succ]
                        refine take_op 9 (some 202) (v := ?_) rfl rfl (by kernel_rfl) (by kernel_rfl) (by kernel_rfl) (fun _ _ _ h => h) (Or.inl ⟨by rfl, ?_⟩) (by assumption) ?_
                        rotate_left
                        · intro w_ hSw_; (try dsimp only at hSw_); go_simp; (try with_reducible rfl)
                        try simp only [Act.put, List.setIfInBounds_toArray, List.set_cons_zero, List.set_cons_succ]
                        refine take_op 10 (some 203) (v := ?_) rfl rfl (by kernel_rfl) (by kernel_rfl) (by kernel_rfl) (fun _ _ _ h => h) (Or.inl ⟨by rfl, ?_⟩) (by assumption) ?_
                        rotate_left
                        · intro w_ hSw_; (try dsimp only at hSw_); go_simp; (try with_reducible rfl)
                        try simp only [Act.put, List.setIfInBounds_toArray, List.set_cons_zero, List.set_cons_succ]
                        refine take_op 12 (some 205) (v := ?_) rfl rfl (by kernel_rfl) (by kernel_rfl) (by kernel_rfl) (fun _ _ _ h => h) (Or.inl ⟨by rfl, ?_⟩) (by assumption) ?_
                        rotate_left
                        · intro w_ hSw_; (try dsimp only at hSw_); go_simp; (try with_reducible rfl)
                        try simp only [Act.put, List.setIfInBounds_toArray, List.set_cons_zero, List.set_cons_succ]
                        refine take_op 13 (some 206) (v := ?_) rfl rfl (by kernel_rfl) (by kernel_rfl) (by kernel_rfl) (fun _ _ _ h => h) (Or.inl ⟨by rfl, ?_⟩) (by assumption) ?_
                        rotate_left
                        · intro w_ hSw_; (try dsimp only at hSw_); go_simp; (try with_reducible rfl)
                        try simp only [Act.put, List.setIfInBounds_toArray, List.set_cons_zero, List.set_cons_succ]
                        refine take_op 14 (some 207) (v := ?_) rfl rfl (by kernel_rfl) (by kernel_rfl) (by kernel_rfl) (fun _ _ _ h => h) (Or.inl ⟨by rfl, ?_⟩) (by assumption) ?_
                        rotate_left
                        · intro w_ hSw_; (try dsimp only at hSw_); go_simp; (try with_reducible rfl)
                        try simp only [Act.put, List.setIfInBounds_toArray, List.set_cons_zero, List.set_cons_succ]
                        refine take_op 15 (some 208) (v := ?_) rfl rfl (by kernel_rfl) (by kernel_rfl) (by kernel_rfl) (fun _ _ _ h => h) (Or.inl ⟨by rfl, ?_⟩) (by assumption) ?_
                        rotate_left
                        · intro w_ hSw_; (try dsimp only at hSw_); go_simp; (try with_reducible rfl)
                        try simp only [Act.put, List.setIfInBounds_toArray, List.set_cons_zero, List.set_cons_succ]
                        refine go_op 11 rfl (by kernel_rfl) (fun K_ hK_ => ?_)
                        go_simp
                        refine (dead_any b mb mt _ HT8.out.disk).mono ?_
                        rintro e w9 ⟨rfl, hw9⟩
                        have hw9 := hw9.symm
                        subst hw9
                        refine hK_.out _ _ ?_ (fun hHeld_ => ?_)
                        · exact ⟨s1, s5⟩
                        refine take_op 16 (some 209) (v := ?_) rfl rfl (by kernel_rfl) (by kernel_rfl) (by kernel_rfl) (fun _ _ _ h => h) (Or.inl ⟨by rfl, ?_⟩) (by assumption) ?_
                        rotate_left
                        · intro w_ hSw_; (try dsimp only at hSw_); go_simp; (try with_reducible rfl)
                        try simp only [Act.put, List.setIfInBounds_toArray, List.set_cons_zero, List.set_cons_succ]
                        refine take_op 17 (some 210) (v := ?_) rfl rfl (by kernel_rfl) (by kernel_rfl) (by kernel_rfl) (fun _ _ _ h => h) (Or.inl ⟨by rfl, ?_⟩) (by assumption) ?_
                        rotate_left
                        · intro w_ hSw_; (try dsimp only at hSw_); go_simp; (try with_reducible rfl)
                        try simp only [Act.put, List.setIfInBounds_toArray, List.set_cons_zero, List.set_cons_succ]
                        refine take_op 18 (some 211) (v := ?_) rfl rfl (by kernel_rfl) (by kernel_rfl) (by kernel_rfl) (fun _ _ _ h => h) (Or.inl ⟨by rfl, ?_⟩) (by assumption) ?_
                        rotate_left
                        · intro w_ hSw_; (try dsimp only at hSw_); go_simp; (try with_reducible rfl)
                        try simp only [Act.put, List.setIfInBounds_toArray, List.set_cons_zero, List.set_cons_succ]
                        refine take_op 19 (some 212) (v := ?_) rfl rfl (by kernel_rfl) (by kernel_rfl) (by kernel_rfl) (fun _ _ _ h => h) (Or.inl ⟨by rfl, ?_⟩) (by assumption) ?_
                        rotate_left
                        · intro w_ hSw_; (try dsimp only at hSw_); go_simp; (try with_reducible rfl)
                        try simp only [Act.put, List.setIfInBounds_toArray, List.set_cons_zero, List.set_cons_succ]
                        refine take_op 21 (some 214) (v := ?_) rfl rfl (by kernel_rfl) (by kernel_rfl) (by kernel_rfl) (fun _ _ _ h => h) (Or.inl ⟨by rfl, ?_⟩) (by assumption) ?_
                        rotate_left
                        · intro w_ hSw_; (try dsimp only at hSw_); go_simp; (try with_reducible rfl)
                        try simp only [Act.put, List.setIfInBounds_toArray, List.set_cons_zero, List.set_cons_succ]
                        refine take_op 22 (some 215) (v := ?_) rfl rfl (by kernel_rfl) (by kernel_rfl) (by kernel_rfl) (fun _ _ _ h => h) (Or.inl ⟨by rfl, ?_⟩) (by assumption) ?_
                        rotate_left
                        · intro w_ hSw_; (try dsimp only at hSw_); go_simp; (try with_reducible rfl)
                        try simp only [Act.put, List.setIfInBounds_toArray, List.set_cons_zero, List.set_cons_succ]
                        refine take_op 23 (some 216) (v := ?_) rfl rfl (by kernel_rfl) (by kernel_rfl) (by kernel_rfl) (fun _ _ _ h => h) (Or.inl ⟨by rfl, ?_⟩) (by assumption) ?_
                        rotate_left
                        · intro w_ hSw_; (try dsimp only at hSw_); go_simp; (try with_reducible rfl)
                        try simp only [Act.put, List.setIfInBounds_toArray, List.set_cons_zero, List.set_cons_succ]
                        refine take_op 24 (some 217) (v := ?_) rfl rfl (by kernel_rfl) (by kernel_rfl) (by kernel_rfl) (fun _ _ _ h => h) (Or.inl ⟨by rfl, ?_⟩) (by assumption) ?_
                        rotate_left
                        · intro w_ hSw_; (try dsimp only at hSw_); go_simp; (try with_reducible rfl)
                        try simp only [Act.put, List.setIfInBounds_toArray, List.set_cons_zero, List.set_cons_succ]
                        refine go_op 20 rfl (by kernel_rfl) (fun K_ hK_ => ?_)
                        go_simp
                        refine (writes_any b mb mt _ HT8.out.disk).mono ?_
                        rintro e w9 ⟨rfl, hw9⟩
                        have hw9 := hw9.symm
                        subst hw9
                        refine hK_.out _ _ ?_ (fun hHeld_ => ?_)
                        · exact ⟨s1, s5⟩
                        refine take_op 25 (some 218) (v := ?_) rfl rfl (by kernel_rfl) (by kernel_rfl) (by kernel_rfl) (fun _ _ _ h => h) (Or.inl ⟨by rfl, ?_⟩) (by assumption) ?_
                        rotate_left
                        · intro w_ hSw_; (try dsimp only at hSw_); go_simp; (try with_reducible rfl)
                        try simp only [Act.put, List.setIfInBounds_toArray, List.set_cons_zero, List.set_cons_succ]
                        refine take_op 26 (some 219) (v := ?_) rfl rfl (by kernel_rfl) (by kernel_rfl) (by kernel_rfl) (fun _ _ _ h => h) (Or.inl ⟨by rfl, ?_⟩) (by assumption) ?_
                        rotate_left
                        · intro w_ hSw_; (try dsimp only at hSw_); go_simp; (try with_reducible rfl)
                        try simp only [Act.put, List.setIfInBounds_toArray, List.set_cons_zero, List.set_cons_succ]
                        refine wpAnyH_done (by kernel_rfl) ?_ _
                        go_wp2_with fail
                        go_roundw
                        case rel => exact ⟨i + 1, _, _, _, _, by omega, by go_num, HT8.out⟩
                        case measure => simp [intOf]; omega
                    · by_cases hk5 : kd = 5
                      · subst hk5
                        cases jo with
                        | none =>
                          obtain rfl : u11 = .pointer none := HJ.out.qj
                          go_wp2_with fail
                          rw [← hwa]
                          clear hwa
                          refine wp_region_held_drew (S := fun w1 => w1.cell? ⟨wr.heap.size, 1, none⟩ = some (.int .i64 nn) ∧ w1.cell? ⟨wr.heap.size, 3, none⟩ = some (.string ss)) (by kernel_rfl) ⟨e1, e3⟩ (fun hHeld => ?_)
                          refine take_op 0 (some 179) (v := ?_) rfl rfl (by kernel_rfl) (by kernel_rfl) (by kernel_rfl) (fun _ _ _ h => h) (Or.inl ⟨by rfl, ?_⟩) (by assumption) ?_
                          rotate_left
                          · intro w_ hSw_; (try dsimp only at hSw_); go_simp; (try with_reducible rfl)
                          try simp only [Act.put, List.setIfInBounds_toArray, List.set_cons_zero, List.set_cons_succ]
                          refine take_op 1 (some 180) (v := ?_) rfl rfl (by kernel_rfl) (by kernel_rfl) (by kernel_rfl) (fun _ _ _ h => h) (Or.inl ⟨by rfl, ?_⟩) (by assumption) ?_
                          rotate_left
                          · intro w_ hSw_; (try dsimp only at hSw_); go_simp; (try with_reducible rfl)
                          try simp only [Act.put, List.setIfInBounds_toArray, List.set_cons_zero, List.set_cons_succ]
                          refine take_op 2 (some 181) (v := ?_) rfl rfl (by kernel_rfl) (by kernel_rfl) (by kernel_rfl) (fun _ _ _ h => h) (Or.inl ⟨by rfl, ?_⟩) (by assumption) ?_
                          rotate_left
                          · intro w_ hSw_; (try dsimp only at hSw_); go_simp; (try with_reducible rfl)
                          try simp only [Act.put, List.setIfInBounds_toArray, List.set_cons_zero, List.set_cons_succ]
                          refine take_op 3 (some 182) (v := ?_) rfl rfl (by kernel_rfl) (by kernel_rfl) (by kernel_rfl) (fun _ _ _ h => h) (Or.inl ⟨by rfl, ?_⟩) (by assumption) ?_
                          rotate_left
                          · intro w_ hSw_; (try dsimp only at hSw_); go_simp; (try with_reducible rfl)
                          try simp only [Act.put, List.setIfInBounds_toArray, List.set_cons_zero, List.set_cons_succ]
                          refine take_op 4 (some 183) (v := ?_) rfl rfl (by kernel_rfl) (by kernel_rfl) (by kernel_rfl) (fun _ _ _ h => h) (Or.inl ⟨by rfl, ?_⟩) (by assumption) ?_
                          rotate_left
                          · intro w_ hSw_; (try dsimp only at hSw_); go_simp; (try with_reducible rfl)
                          try simp only [Act.put, List.setIfInBounds_toArray, List.set_cons_zero, List.set_cons_succ]
                          refine go_op 5 rfl (by kernel_rfl) (fun K_ hK_ => ?_)
                          go_simp
                          refine (raw_any ss hs9 _).mono ?_
                          rintro e w5 ⟨rfl, hb5⟩
                          have HJ5 := Lib.hid ((HA.out.below ((Below.refl _ _).drew)).below hb5)
                          have hK5 := HKA.out.drew.below hb5 HKA.out.lt
                          clear hb5
                          refine hK_.out _ _ ?_ (fun hHeld_ => ?_)
                          · exact ⟨hK5.cell 1, hK5.cell 3⟩
                          refine go_op 6 rfl (by kernel_rfl) (fun K_ hK_ => ?_)
                          go_simp
                          refine (jp_write HJ5.out nn (rawF ss) (rawF_len ss)).mono ?_
                          rintro e w6 ⟨rfl, A6, hj6, ho6⟩
                          have HJ6 := Lib.hid hj6
                          have hK6 := ho6.blk hK5 hnA.out
                          clear hj6 ho6
                          refine hK_.out _ _ ?_ (fun hHeld_ => ?_)
                          · exact ⟨hK6.cell 1, hK6.cell 3⟩
                          refine wpAnyH_done (by kernel_rfl) ?_ _
                          clear hK5 hHeld hHeld_ e0 e1 e2 e3
                          have y1 : w6.cell? ⟨wr.heap.size, 1, none⟩ = some (.int .i64 nn) := hK6.cell 1
                          have y3 : w6.cell? ⟨wr.heap.size, 3, none⟩ = some (.string ss) := hK6.cell 3
                          go_wp2_with fail
                          refine wp_region_held_drew (S := fun w1 => w1.cell? ⟨wr.heap.size, 1, none⟩ = some (.int .i64 nn) ∧ w1.cell? ⟨wr.heap.size, 3, none⟩ = some (.string ss)) (by kernel_rfl) ⟨y1, y3⟩ (fun hHeld => ?_)
                          refine take_op 0 (some 186) (v := ?_) rfl rfl (by kernel_rfl) (by kernel_rfl) (by kernel_rfl) (fun _ _ _ h => h) (Or.inl ⟨by rfl, ?_⟩) (by assumption) ?_
                          rotate_left
                          · intro w_ hSw_; (try dsimp only at hSw_); go_simp; (try with_reducible rfl)
                          try simp only [Act.put, List.setIfInBounds_toArray, List.set_cons_zero, List.set_cons_succ]
                          refine take_op 1 (some 187) (v := ?_) rfl rfl (by kernel_rfl) (by kernel_rfl) (by kernel_rfl) (fun _ _ _ h => h) (Or.inl ⟨by rfl, ?_⟩) (by assumption) ?_
                          rotate_left
                          · intro w_ hSw_; (try dsimp only at hSw_); go_simp; (try with_reducible rfl)
                          try simp only [Act.put, List.setIfInBounds_toArray, List.set_cons_zero, List.set_cons_succ]
                          refine take_op 2 (some 188) (v := ?_) rfl rfl (by kernel_rfl) (by kernel_rfl) (by kernel_rfl) (fun _ _ _ h => h) (Or.inl ⟨by rfl, ?_⟩) (by assumption) ?_
                          rotate_left
                          · intro w_ hSw_; (try dsimp only at hSw_); go_simp; (try with_reducible rfl)
                          try simp only [Act.put, List.setIfInBounds_toArray, List.set_cons_zero, List.set_cons_succ]
                          refine take_op 3 (some 189) (v := ?_) rfl rfl (by kernel_rfl) (by kernel_rfl) (by kernel_rfl) (fun _ _ _ h => h) (Or.inl ⟨by rfl, ?_⟩) (by assumption) ?_
                          rotate_left
                          · intro w_ hSw_; (try dsimp only at hSw_); go_simp; (try with_reducible rfl)
                          try simp only [Act.put, List.setIfInBounds_toArray, List.set_cons_zero, List.set_cons_succ]
                          refine take_op 4 (some 190) (v := ?_) rfl rfl (by kernel_rfl) (by kernel_rfl) (by kernel_rfl) (fun _ _ _ h => h) (Or.inl ⟨by rfl, ?_⟩) (by assumption) ?_
                          rotate_left
                          · intro w_ hSw_; (try dsimp only at hSw_); go_simp; (try with_reducible rfl)
                          try simp only [Act.put, List.setIfInBounds_toArray, List.set_cons_zero, List.set_cons_succ]
                          refine go_op 5 rfl (by kernel_rfl) (fun K_ hK_ => ?_)
                          go_simp
                          refine (raw_any ss hs9 _).mono ?_
                          rintro e w7 ⟨rfl, hb7⟩
                          have HJ7 := Lib.hid ((HJ6.out.below ((Below.refl _ _).drew)).below hb7)
                          have hK7 := hK6.drew.below hb7 hK6.lt
                          clear hb7
                          refine hK_.out _ _ ?_ (fun hHeld_ => ?_)
                          · exact ⟨hK7.cell 1, hK7.cell 3⟩
                          refine go_op 6 rfl (by kernel_rfl) (fun K_ hK_ => ?_)
                          go_simp
                          refine (jq_write HJ7.out nn (rawF ss)).mono ?_
                          rintro e w8 ⟨rfl, B8, hj8, ho8⟩
                          have HTt := Lib.hid hj8
                          have hK8 := ho8.blk hK7 hnB.out
                          clear hj8 ho8
                          refine hK_.out _ _ ?_ (fun hHeld_ => ?_)
                          · exact ⟨hK8.cell 1, hK8.cell 3⟩
                          refine wpAnyH_done (by kernel_rfl) ?_ _
                          clear hK6 hK7 hK8 hHeld hHeld_ y1 y3
                          revert HTt
                          generalize (m.write nn (rawF ss)).1 = mt
                          intro HTt
                          as_aux_lemma =>
                            have t1 := (ref_cells HTt.out.ref).1
                            have t5 := (ref_cells HTt.out.ref).2
                            go_wp2_with fail
                            refine wp_region_held_drew (S := fun w1 => w1.cell? ⟨rb, 1, none⟩ = some (.bool mt.dead) ∧ w1.cell? ⟨rb, 5, none⟩ = some (.int .i64 mt.writes)) (by kernel_rfl) ⟨t1, t5⟩ (fun hHeld => ?_)
                            refine take_op 0 (some 193) (v := ?_) rfl rfl (by kernel_rfl) (by kernel_rfl) (by kernel_rfl) (fun _ _ _ h => h) (Or.inl ⟨by rfl, ?_⟩) (by assumption) ?_
                            rotate_left
                            · intro w_ hSw_; (try dsimp only at hSw_); go_simp; (try with_reducible rfl)
                            try simp only [Act.put, List.setIfInBounds_toArray, List.set_cons_zero, List.set_cons_succ]
                            refine take_op 1 (some 194) (v := ?_) rfl rfl (by kernel_rfl) (by kernel_rfl) (by kernel_rfl) (fun _ _ _ h => h) (Or.inl ⟨by rfl, ?_⟩) (by assumption) ?_
                            rotate_left
                            · intro w_ hSw_; (try dsimp only at hSw_); go_simp; (try with_reducible rfl)
                            try simp only [Act.put, List.setIfInBounds_toArray, List.set_cons_zero, List.set_cons_succ]
                            refine take_op 2 (some 195) (v := ?_) rfl rfl (by kernel_rfl) (by kernel_rfl) (by kernel_rfl) (fun _ _ _ h => h) (Or.inl ⟨by rfl, ?_⟩) (by assumption) ?_
                            rotate_left
                            · intro w_ hSw_; (try dsimp only at hSw_); go_simp; (try with_reducible rfl)
                            try simp only [Act.put, List.setIfInBounds_toArray, List.set_cons_zero, List.set_cons_succ]
                            refine take_op 3 (some 196) (v := ?_) rfl rfl (by kernel_rfl) (by kernel_rfl) (by kernel_rfl) (fun _ _ _ h => h) (Or.inl ⟨by rfl, ?_⟩) (by assumption) ?_
                            rotate_left
                            · intro w_ hSw_; (try dsimp only at hSw_); go_simp; (try with_reducible rfl)
                            try simp only [Act.put, List.setIfInBounds_toArray, List.set_cons_zero, List.set_cons_succ]
                            refine take_op 4 (some 197) (v := ?_) rfl rfl (by kernel_rfl) (by kernel_rfl) (by kernel_rfl) (fun _ _ _ h => h) (Or.inl ⟨by rfl, ?_⟩) (by assumption) ?_
                            rotate_left
                            · intro w_ hSw_; (try dsimp only at hSw_); go_simp; (try with_reducible rfl)
                            try simp only [Act.put, List.setIfInBounds_toArray, List.set_cons_zero, List.set_cons_succ]
                            refine take_op 5 (some 198) (v := ?_) rfl rfl (by kernel_rfl) (by kernel_rfl) (by kernel_rfl) (fun _ _ _ h => h) (Or.inl ⟨by rfl, ?_⟩) (by assumption) ?_
                            rotate_left
                            · intro w_ hSw_; (try dsimp only at hSw_); go_simp; (try with_reducible rfl)
                            try simp only [Act.put, List.setIfInBounds_toArray, List.set_cons_zero, List.set_cons_succ]
                            refine go_op 6 rfl (by kernel_rfl) (fun K_ hK_ => ?_)
                            go_simp
                            refine (same12_any (HTt.out.below ((Below.refl _ _).drew))).mono ?_
                            rintro e w8 ⟨rfl, hb8⟩
                            have HT8 := Lib.hid ((HTt.out.below ((Below.refl _ _).drew)).below hb8)
                            clear hb8 t1 t5
                            have s1 := (ref_cells HT8.out.ref).1
                            have s5 := (ref_cells HT8.out.ref).2
                            refine hK_.out _ _ ?_ (fun hHeld_ => ?_)
                            · exact ⟨s1, s5⟩
                            refine take_op 7 (some 200) (v := ?_) rfl rfl (by kernel_rfl) (by kernel_rfl) (by kernel_rfl) (fun _ _ _ h => h) (Or.inl ⟨by rfl, ?_⟩) (by assumption) ?_
                            rotate_left
                            · intro w_ hSw_; (try dsimp only at hSw_); go_simp; (try with_reducible rfl)
                            try simp only [Act.put, List.setIfInBounds_toArray, List.set_cons_zero, List.set_cons_succ]
                            refine take_op 8 (some 201) (v := ?_) rfl rfl (by kernel_rfl) (by kernel_rfl) (by kernel_rfl) (fun _ _ _ h => h) (Or.inl ⟨by rfl, ?_⟩) (by assumption) ?_
                            rotate_left
                            · intro w_ hSw_; (try dsimp only at hSw_); go_simp; (try with_reducible rfl)
                            try simp only [Act.put, List.setIfInBounds_toArray, List.set_cons_zero, List.set_cons_succ]
                            refine take_op 9 (some 202) (v := ?_) rfl rfl (by kernel_rfl) (by kernel_rfl) (by kernel_rfl) (fun _ _ _ h => h) (Or.inl ⟨by rfl, ?_⟩) (by assumption) ?_
                            rotate_left
                            · intro w_ hSw_; (try dsimp only at hSw_); go_simp; (try with_reducible rfl)
                            try simp only [Act.put, List.setIfInBounds_toArray, List.set_cons_zero, List.set_cons_succ]
                            refine take_op 10 (some 203) (v := ?_) rfl rfl (by kernel_rfl) (by kernel_rfl) (by kernel_rfl) (fun _ _ _ h => h) (Or.inl ⟨by rfl, ?_⟩) (by assumption) ?_
                            rotate_left
                            · intro w_ hSw_; (try dsimp only at hSw_); go_simp; (try with_reducible rfl)
                            try simp only [Act.put, List.setIfInBounds_toArray, List.set_cons_zero, List.set_cons_succ]
                            refine take_op 12 (some 205) (v := ?_) rfl rfl (by kernel_rfl) (by kernel_rfl) (by kernel_rfl) (fun _ _ _ h => h) (Or.inl ⟨by rfl, ?_⟩) (by assumption) ?_
                            rotate_left
                            · intro w_ hSw_; (try dsimp only at hSw_); go_simp; (try with_reducible rfl)
                            try simp only [Act.put, List.setIfInBounds_toArray, List.set_cons_zero, List.set_cons_succ]
                            refine take_op 13 (some 206) (v := ?_) rfl rfl (by kernel_rfl) (by kernel_rfl) (by kernel_rfl) (fun _ _ _ h => h) (Or.inl ⟨by rfl, ?_⟩) (by assumption) ?_
                            rotate_left
                            · intro w_ hSw_; (try dsimp only at hSw_); go_simp; (try with_reducible rfl)
                            try simp only [Act.put, List.setIfInBounds_toArray, List.set_cons_zero, List.set_cons_succ]
                            refine take_op 14 (some 207) (v := ?_) rfl rfl (by kernel_rfl) (by kernel_rfl) (by kernel_rfl) (fun _ _ _ h => h) (Or.inl ⟨by rfl, ?_⟩) (by assumption) ?_
                            rotate_left
                            · intro w_ hSw_; (try dsimp only at hSw_); go_simp; (try with_reducible rfl)
                            try simp only [Act.put, List.setIfInBounds_toArray, List.set_cons_zero, List.set_cons_succ]
                            refine take_op 15 (some 208) (v := ?_) rfl rfl (by kernel_rfl) (by kernel_rfl) (by kernel_rfl) (fun _ _ _ h => h) (Or.inl ⟨by rfl, ?_⟩) (by assumption) ?_
                            rotate_left
                            · intro w_ hSw_; (try dsimp only at hSw_); go_simp; (try with_reducible rfl)
                            try simp only [Act.put, List.setIfInBounds_toArray, List.set_cons_zero, List.set_cons_succ]
                            refine go_op 11 rfl (by kernel_rfl) (fun K_ hK_ => ?_)
                            go_simp
                            refine (dead_any b mb mt _ HT8.out.disk).mono ?_
                            rintro e w9 ⟨rfl, hw9⟩
                            have hw9 := hw9.symm
                            subst hw9
                            refine hK_.out _ _ ?_ (fun hHeld_ => ?_)
                            · exact ⟨s1, s5⟩
                            refine take_op 16 (some 209) (v := ?_) rfl rfl (by kernel_rfl) (by kernel_rfl) (by kernel_rfl) (fun _ _ _ h => h) (Or.inl ⟨by rfl, ?_⟩) (by assumption) ?_
                            rotate_left
                            · intro w_ hSw_; (try dsimp only at hSw_); go_simp; (try with_reducible rfl)
                            try simp only [Act.put, List.setIfInBounds_toArray, List.set_cons_zero, List.set_cons_succ]
                            refine take_op 17 (some 210) (v := ?_) rfl rfl (by kernel_rfl) (by kernel_rfl) (by kernel_rfl) (fun _ _ _ h => h) (Or.inl ⟨by rfl, ?_⟩) (by assumption) ?_
                            rotate_left
                            · intro w_ hSw_; (try dsimp only at hSw_); go_simp; (try with_reducible rfl)
                            try simp only [Act.put, List.setIfInBounds_toArray, List.set_cons_zero, List.set_cons_succ]
                            refine take_op 18 (some 211) (v := ?_) rfl rfl (by kernel_rfl) (by kernel_rfl) (by kernel_rfl) (fun _ _ _ h => h) (Or.inl ⟨by rfl, ?_⟩) (by assumption) ?_
                            rotate_left
                            · intro w_ hSw_; (try dsimp only at hSw_); go_simp; (try with_reducible rfl)
                            try simp only [Act.put, List.setIfInBounds_toArray, List.set_cons_zero, List.set_cons_succ]
                            refine take_op 19 (some 212) (v := ?_) rfl rfl (by kernel_rfl) (by kernel_rfl) (by kernel_rfl) (fun _ _ _ h => h) (Or.inl ⟨by rfl, ?_⟩) (by assumption) ?_
                            rotate_left
                            · intro w_ hSw_; (try dsimp only at hSw_); go_simp; (try with_reducible rfl)
                            try simp only [Act.put, List.setIfInBounds_toArray, List.set_cons_zero, List.set_cons_succ]
                            refine take_op 21 (some 214) (v := ?_) rfl rfl (by kernel_rfl) (by kernel_rfl) (by kernel_rfl) (fun _ _ _ h => h) (Or.inl ⟨by rfl, ?_⟩) (by assumption) ?_
                            rotate_left
                            · intro w_ hSw_; (try dsimp only at hSw_); go_simp; (try with_reducible rfl)
                            try simp only [Act.put, List.setIfInBounds_toArray, List.set_cons_zero, List.set_cons_succ]
                            refine take_op 22 (some 215) (v := ?_) rfl rfl (by kernel_rfl) (by kernel_rfl) (by kernel_rfl) (fun _ _ _ h => h) (Or.inl ⟨by rfl, ?_⟩) (by assumption) ?_
                            rotate_left
                            · intro w_ hSw_; (try dsimp only at hSw_); go_simp; (try with_reducible rfl)
                            try simp only [Act.put, List.setIfInBounds_toArray, List.set_cons_zero, List.set_cons_succ]
                            refine take_op 23 (some 216) (v := ?_) rfl rfl (by kernel_rfl) (by kernel_rfl) (by kernel_rfl) (fun _ _ _ h => h) (Or.inl ⟨by rfl, ?_⟩) (by assumption) ?_
                            rotate_left
                            · intro w_ hSw_; (try dsimp only at hSw_); go_simp; (try with_reducible rfl)
                            try simp only [Act.put, List.setIfInBounds_toArray, List.set_cons_zero, List.set_cons_succ]
                            refine take_op 24 (some 217) (v := ?_) rfl rfl (by kernel_rfl) (by kernel_rfl) (by kernel_rfl) (fun _ _ _ h => h) (Or.inl ⟨by rfl, ?_⟩) (by assumption) ?_
                            rotate_left
                            · intro w_ hSw_; (try dsimp only at hSw_); go_simp; (try with_reducible rfl)
                            try simp only [Act.put, List.setIfInBounds_toArray, List.set_cons_zero, List.set_cons_succ]
                            refine go_op 20 rfl (by kernel_rfl) (fun K_ hK_ => ?_)
                            go_simp
                            refine (writes_any b mb mt _ HT8.out.disk).mono ?_
                            rintro e w9 ⟨rfl, hw9⟩
                            have hw9 := hw9.symm
                            subst hw9
                            refine hK_.out _ _ ?_ (fun hHeld_ => ?_)
                            · exact ⟨s1, s5⟩
                            refine take_op 25 (some 218) (v := ?_) rfl rfl (by kernel_rfl) (by kernel_rfl) (by kernel_rfl) (fun _ _ _ h => h) (Or.inl ⟨by rfl, ?_⟩) (by assumption) ?_
                            rotate_left
                            · intro w_ hSw_; (try dsimp only at hSw_); go_simp; (try with_reducible rfl)
                            try simp only [Act.put, List.setIfInBounds_toArray, List.set_cons_zero, List.set_cons_succ]
                            refine take_op 26 (some 219) (v := ?_) rfl rfl (by kernel_rfl) (by kernel_rfl) (by kernel_rfl) (fun _ _ _ h => h) (Or.inl ⟨by rfl, ?_⟩) (by assumption) ?_
                            rotate_left
                            · intro w_ hSw_; (try dsimp only at hSw_); go_simp; (try with_reducible rfl)
                            try simp only [Act.put, List.setIfInBounds_toArray, List.set_cons_zero, List.set_cons_succ]
                            refine wpAnyH_done (by kernel_rfl) ?_ _
                            go_wp2_with fail
                            go_roundw
                            case rel => exact ⟨i + 1, _, _, _, _, by omega, by go_num, HT8.out⟩
                            case measure => simp [intOf]; omega
                        | some j =>
                          obtain ⟨qb, u, rfl, _, _, _, _⟩ := HJ.out.qj
                          have HTt := HA
                          go_wp2_with fail
                          rw [← hwa]
                          clear hwa
                          clear e0 e1 e2 e3
                          as_aux_lemma =>
                            have t1 := (ref_cells HTt.out.ref).1
                            have t5 := (ref_cells HTt.out.ref).2
                            go_wp2_with fail
                            refine wp_region_held_drew (S := fun w1 => w1.cell? ⟨rb, 1, none⟩ = some (.bool m.dead) ∧ w1.cell? ⟨rb, 5, none⟩ = some (.int .i64 m.writes)) (by kernel_rfl) ⟨t1, t5⟩ (fun hHeld => ?_)
                            refine take_op 0 (some 193) (v := ?_) rfl rfl (by kernel_rfl) (by kernel_rfl) (by kernel_rfl) (fun _ _ _ h => h) (Or.inl ⟨by rfl, ?_⟩) (by assumption) ?_
                            rotate_left
                            · intro w_ hSw_; (try dsimp only at hSw_); go_simp; (try with_reducible rfl)
                            try simp only [Act.put, List.setIfInBounds_toArray, List.set_cons_zero, List.set_cons_succ]
                            refine take_op 1 (some 194) (v := ?_) rfl rfl (by kernel_rfl) (by kernel_rfl) (by kernel_rfl) (fun _ _ _ h => h) (Or.inl ⟨by rfl, ?_⟩) (by assumption) ?_
                            rotate_left
                            · intro w_ hSw_; (try dsimp only at hSw_); go_simp; (try with_reducible rfl)
                            try simp only [Act.put, List.setIfInBounds_toArray, List.set_cons_zero, List.set_cons_succ]
                            refine take_op 2 (some 195) (v := ?_) rfl rfl (by kernel_rfl) (by kernel_rfl) (by kernel_rfl) (fun _ _ _ h => h) (Or.inl ⟨by rfl, ?_⟩) (by assumption) ?_
                            rotate_left
                            · intro w_ hSw_; (try dsimp only at hSw_); go_simp; (try with_reducible rfl)
                            try simp only [Act.put, List.setIfInBounds_toArray, List.set_cons_zero, List.set_cons_succ]
                            refine take_op 3 (some 196) (v := ?_) rfl rfl (by kernel_rfl) (by kernel_rfl) (by kernel_rfl) (fun _ _ _ h => h) (Or.inl ⟨by rfl, ?_⟩) (by assumption) ?_
                            rotate_left
                            · intro w_ hSw_; (try dsimp only at hSw_); go_simp; (try with_reducible rfl)
                            try simp only [Act.put, List.setIfInBounds_toArray, List.set_cons_zero, List.set_cons_succ]
                            refine take_op 4 (some 197) (v := ?_) rfl rfl (by kernel_rfl) (by kernel_rfl) (by kernel_rfl) (fun _ _ _ h => h) (Or.inl ⟨by rfl, ?_⟩) (by assumption) ?_
                            rotate_left
                            · intro w_ hSw_; (try dsimp only at hSw_); go_simp; (try with_reducible rfl)
                            try simp only [Act.put, List.setIfInBounds_toArray, List.set_cons_zero, List.set_cons_succ]
                            refine take_op 5 (some 198) (v := ?_) rfl rfl (by kernel_rfl) (by kernel_rfl) (by kernel_rfl) (fun _ _ _ h => h) (Or.inl ⟨by rfl, ?_⟩) (by assumption) ?_
                            rotate_left
                            · intro w_ hSw_; (try dsimp only at hSw_); go_simp; (try with_reducible rfl)
                            try simp only [Act.put, List.setIfInBounds_toArray, List.set_cons_zero, List.set_cons_succ]
                            refine go_op 6 rfl (by kernel_rfl) (fun K_ hK_ => ?_)
                            go_simp
                            refine (same12_any (HTt.out.below ((Below.refl _ _).drew))).mono ?_
                            rintro e w8 ⟨rfl, hb8⟩
                            have HT8 := Lib.hid ((HTt.out.below ((Below.refl _ _).drew)).below hb8)
                            clear hb8 t1 t5
                            have s1 := (ref_cells HT8.out.ref).1
                            have s5 := (ref_cells HT8.out.ref).2
                            refine hK_.out _ _ ?_ (fun hHeld_ => ?_)
                            · exact ⟨s1, s5⟩
                            refine take_op 7 (some 200) (v := ?_) rfl rfl (by kernel_rfl) (by kernel_rfl) (by kernel_rfl) (fun _ _ _ h => h) (Or.inl ⟨by rfl, ?_⟩) (by assumption) ?_
                            rotate_left
                            · intro w_ hSw_; (try dsimp only at hSw_); go_simp; (try with_reducible rfl)
                            try simp only [Act.put, List.setIfInBounds_toArray, List.set_cons_zero, List.set_cons_succ]
                            refine take_op 8 (some 201) (v := ?_) rfl rfl (by kernel_rfl) (by kernel_rfl) (by kernel_rfl) (fun _ _ _ h => h) (Or.inl ⟨by rfl, ?_⟩) (by assumption) ?_
                            rotate_left
                            · intro w_ hSw_; (try dsimp only at hSw_); go_simp; (try with_reducible rfl)
                            try simp only [Act.put, List.setIfInBounds_toArray, List.set_cons_zero, List.set_cons_succ]
                            refine take_op 9 (some 202) (v := ?_) rfl rfl (by kernel_rfl) (by kernel_rfl) (by kernel_rfl) (fun _ _ _ h => h) (Or.inl ⟨by rfl, ?_⟩) (by assumption) ?_
                            rotate_left
                            · intro w_ hSw_; (try dsimp only at hSw_); go_simp; (try with_reducible rfl)
                            try simp only [Act.put, List.setIfInBounds_toArray, List.set_cons_zero, List.set_cons_succ]
                            refine take_op 10 (some 203) (v := ?_) rfl rfl (by kernel_rfl) (by kernel_rfl) (by kernel_rfl) (fun _ _ _ h => h) (Or.inl ⟨by rfl, ?_⟩) (by assumption) ?_
                            rotate_left
                            · intro w_ hSw_; (try dsimp only at hSw_); go_simp; (try with_reducible rfl)
                            try simp only [Act.put, List.setIfInBounds_toArray, List.set_cons_zero, List.set_cons_succ]
                            refine take_op 12 (some 205) (v := ?_) rfl rfl (by kernel_rfl) (by kernel_rfl) (by kernel_rfl) (fun _ _ _ h => h) (Or.inl ⟨by rfl, ?_⟩) (by assumption) ?_
                            rotate_left
                            · intro w_ hSw_; (try dsimp only at hSw_); go_simp; (try with_reducible rfl)
                            try simp only [Act.put, List.setIfInBounds_toArray, List.set_cons_zero, List.set_cons_succ]
                            refine take_op 13 (some 206) (v := ?_) rfl rfl (by kernel_rfl) (by kernel_rfl) (by kernel_rfl) (fun _ _ _ h => h) (Or.inl ⟨by rfl, ?_⟩) (by assumption) ?_
                            rotate_left
                            · intro w_ hSw_; (try dsimp only at hSw_); go_simp; (try with_reducible rfl)
                            try simp only [Act.put, List.setIfInBounds_toArray, List.set_cons_zero, List.set_cons_succ]
                            refine take_op 14 (some 207) (v := ?_) rfl rfl (by kernel_rfl) (by kernel_rfl) (by kernel_rfl) (fun _ _ _ h => h) (Or.inl ⟨by rfl, ?_⟩) (by assumption) ?_
                            rotate_left
                            · intro w_ hSw_; (try dsimp only at hSw_); go_simp; (try with_reducible rfl)
                            try simp only [Act.put, List.setIfInBounds_toArray, List.set_cons_zero, List.set_cons_succ]
                            refine take_op 15 (some 208) (v := ?_) rfl rfl (by kernel_rfl) (by kernel_rfl) (by kernel_rfl) (fun _ _ _ h => h) (Or.inl ⟨by rfl, ?_⟩) (by assumption) ?_
                            rotate_left
                            · intro w_ hSw_; (try dsimp only at hSw_); go_simp; (try with_reducible rfl)
                            try simp only [Act.put, List.setIfInBounds_toArray, List.set_cons_zero, List.set_cons_succ]
                            refine go_op 11 rfl (by kernel_rfl) (fun K_ hK_ => ?_)
                            go_simp
                            refine (dead_any b mb m _ HT8.out.disk).mono ?_
                            rintro e w9 ⟨rfl, hw9⟩
                            have hw9 := hw9.symm
                            subst hw9
                            refine hK_.out _ _ ?_ (fun hHeld_ => ?_)
                            · exact ⟨s1, s5⟩
                            refine take_op 16 (some 209) (v := ?_) rfl rfl (by kernel_rfl) (by kernel_rfl) (by kernel_rfl) (fun _ _ _ h => h) (Or.inl ⟨by rfl, ?_⟩) (by assumption) ?_
                            rotate_left
                            · intro w_ hSw_; (try dsimp only at hSw_); go_simp; (try with_reducible rfl)
                            try simp only [Act.put, List.setIfInBounds_toArray, List.set_cons_zero, List.set_cons_succ]
                            refine take_op 17 (some 210) (v := ?_) rfl rfl (by kernel_rfl) (by kernel_rfl) (by kernel_rfl) (fun _ _ _ h => h) (Or.inl ⟨by rfl, ?_⟩) (by assumption) ?_
                            rotate_left
                            · intro w_ hSw_; (try dsimp only at hSw_); go_simp; (try with_reducible rfl)
                            try simp only [Act.put, List.setIfInBounds_toArray, List.set_cons_zero, List.set_cons_succ]
                            refine take_op 18 (some 211) (v := ?_) rfl rfl (by kernel_rfl) (by kernel_rfl) (by kernel_rfl) (fun _ _ _ h => h) (Or.inl ⟨by rfl, ?_⟩) (by assumption) ?_
                            rotate_left
                            · intro w_ hSw_; (try dsimp only at hSw_); go_simp; (try with_reducible rfl)
                            try simp only [Act.put, List.setIfInBounds_toArray, List.set_cons_zero, List.set_cons_succ]
                            refine take_op 19 (some 212) (v := ?_) rfl rfl (by kernel_rfl) (by kernel_rfl) (by kernel_rfl) (fun _ _ _ h => h) (Or.inl ⟨by rfl, ?_⟩) (by assumption) ?_
                            rotate_left
                            · intro w_ hSw_; (try dsimp only at hSw_); go_simp; (try with_reducible rfl)
                            try simp only [Act.put, List.setIfInBounds_toArray, List.set_cons_zero, List.set_cons_succ]
                            refine take_op 21 (some 214) (v := ?_) rfl rfl (by kernel_rfl) (by kernel_rfl) (by kernel_rfl) (fun _ _ _ h => h) (Or.inl ⟨by rfl, ?_⟩) (by assumption) ?_
                            rotate_left
                            · intro w_ hSw_; (try dsimp only at hSw_); go_simp; (try with_reducible rfl)
                            try simp only [Act.put, List.setIfInBounds_toArray, List.set_cons_zero, List.set_cons_succ]
                            refine take_op 22 (some 215) (v := ?_) rfl rfl (by kernel_rfl) (by kernel_rfl) (by kernel_rfl) (fun _ _ _ h => h) (Or.inl ⟨by rfl, ?_⟩) (by assumption) ?_
                            rotate_left
                            · intro w_ hSw_; (try dsimp only at hSw_); go_simp; (try with_reducible rfl)
                            try simp only [Act.put, List.setIfInBounds_toArray, List.set_cons_zero, List.set_cons_succ]
                            refine take_op 23 (some 216) (v := ?_) rfl rfl (by kernel_rfl) (by kernel_rfl) (by kernel_rfl) (fun _ _ _ h => h) (Or.inl ⟨by rfl, ?_⟩) (by assumption) ?_
                            rotate_left
                            · intro w_ hSw_; (try dsimp only at hSw_); go_simp; (try with_reducible rfl)
                            try simp only [Act.put, List.setIfInBounds_toArray, List.set_cons_zero, List.set_cons_succ]
                            refine take_op 24 (some 217) (v := ?_) rfl rfl (by kernel_rfl) (by kernel_rfl) (by kernel_rfl) (fun _ _ _ h => h) (Or.inl ⟨by rfl, ?_⟩) (by assumption) ?_
                            rotate_left
                            · intro w_ hSw_; (try dsimp only at hSw_); go_simp; (try with_reducible rfl)
                            try simp only [Act.put, List.setIfInBounds_toArray, List.set_cons_zero, List.set_cons_succ]
                            refine go_op 20 rfl (by kernel_rfl) (fun K_ hK_ => ?_)
                            go_simp
                            refine (writes_any b mb m _ HT8.out.disk).mono ?_
                            rintro e w9 ⟨rfl, hw9⟩
                            have hw9 := hw9.symm
                            subst hw9
                            refine hK_.out _ _ ?_ (fun hHeld_ => ?_)
                            · exact ⟨s1, s5⟩
                            refine take_op 25 (some 218) (v := ?_) rfl rfl (by kernel_rfl) (by kernel_rfl) (by kernel_rfl) (fun _ _ _ h => h) (Or.inl ⟨by rfl, ?_⟩) (by assumption) ?_
                            rotate_left
                            · intro w_ hSw_; (try dsimp only at hSw_); go_simp; (try with_reducible rfl)
                            try simp only [Act.put, List.setIfInBounds_toArray, List.set_cons_zero, List.set_cons_succ]
                            refine take_op 26 (some 219) (v := ?_) rfl rfl (by kernel_rfl) (by kernel_rfl) (by kernel_rfl) (fun _ _ _ h => h) (Or.inl ⟨by rfl, ?_⟩) (by assumption) ?_
                            rotate_left
                            · intro w_ hSw_; (try dsimp only at hSw_); go_simp; (try with_reducible rfl)
                            try simp only [Act.put, List.setIfInBounds_toArray, List.set_cons_zero, List.set_cons_succ]
                            refine wpAnyH_done (by kernel_rfl) ?_ _
                            go_wp2_with fail
                            go_roundw
                            case rel => exact ⟨i + 1, _, _, _, _, by omega, by go_num, HT8.out⟩
                            case measure => simp [intOf]; omega
                      · have HTt := HA
                        go_wp2_with fail
                        rw [← hwa]
                        clear hwa
                        clear e0 e1 e2 e3
                        as_aux_lemma =>
                          have t1 := (ref_cells HTt.out.ref).1
                          have t5 := (ref_cells HTt.out.ref).2
                          go_wp2_with fail
                          refine wp_region_held_drew (S := fun w1 => w1.cell? ⟨rb, 1, none⟩ = some (.bool m.dead) ∧ w1.cell? ⟨rb, 5, none⟩ = some (.int .i64 m.writes)) (by kernel_rfl) ⟨t1, t5⟩ (fun hHeld => ?_)
                          refine take_op 0 (some 193) (v := ?_) rfl rfl (by kernel_rfl) (by kernel_rfl) (by kernel_rfl) (fun _ _ _ h => h) (Or.inl ⟨by rfl, ?_⟩) (by assumption) ?_
                          rotate_left
                          · intro w_ hSw_; (try dsimp only at hSw_); go_simp; (try with_reducible rfl)
                          try simp only [Act.put, List.setIfInBounds_toArray, List.set_cons_zero, List.set_cons_succ]
                          refine take_op 1 (some 194) (v := ?_) rfl rfl (by kernel_rfl) (by kernel_rfl) (by kernel_rfl) (fun _ _ _ h => h) (Or.inl ⟨by rfl, ?_⟩) (by assumption) ?_
                          rotate_left
                          · intro w_ hSw_; (try dsimp only at hSw_); go_simp; (try with_reducible rfl)
                          try simp only [Act.put, List.setIfInBounds_toArray, List.set_cons_zero, List.set_cons_succ]
                          refine take_op 2 (some 195) (v := ?_) rfl rfl (by kernel_rfl) (by kernel_rfl) (by kernel_rfl) (fun _ _ _ h => h) (Or.inl ⟨by rfl, ?_⟩) (by assumption) ?_
                          rotate_left
                          · intro w_ hSw_; (try dsimp only at hSw_); go_simp; (try with_reducible rfl)
                          try simp only [Act.put, List.setIfInBounds_toArray, List.set_cons_zero, List.set_cons_succ]
                          refine take_op 3 (some 196) (v := ?_) rfl rfl (by kernel_rfl) (by kernel_rfl) (by kernel_rfl) (fun _ _ _ h => h) (Or.inl ⟨by rfl, ?_⟩) (by assumption) ?_
                          rotate_left
                          · intro w_ hSw_; (try dsimp only at hSw_); go_simp; (try with_reducible rfl)
                          try simp only [Act.put, List.setIfInBounds_toArray, List.set_cons_zero, List.set_cons_succ]
                          refine take_op 4 (some 197) (v := ?_) rfl rfl (by kernel_rfl) (by kernel_rfl) (by kernel_rfl) (fun _ _ _ h => h) (Or.inl ⟨by rfl, ?_⟩) (by assumption) ?_
                          rotate_left
                          · intro w_ hSw_; (try dsimp only at hSw_); go_simp; (try with_reducible rfl)
                          try simp only [Act.put, List.setIfInBounds_toArray, List.set_cons_zero, List.set_cons_succ]
                          refine take_op 5 (some 198) (v := ?_) rfl rfl (by kernel_rfl) (by kernel_rfl) (by kernel_rfl) (fun _ _ _ h => h) (Or.inl ⟨by rfl, ?_⟩) (by assumption) ?_
                          rotate_left
                          · intro w_ hSw_; (try dsimp only at hSw_); go_simp; (try with_reducible rfl)
                          try simp only [Act.put, List.setIfInBounds_toArray, List.set_cons_zero, List.set_cons_succ]
                          refine go_op 6 rfl (by kernel_rfl) (fun K_ hK_ => ?_)
                          go_simp
                          refine (same12_any (HTt.out.below ((Below.refl _ _).drew))).mono ?_
                          rintro e w8 ⟨rfl, hb8⟩
                          have HT8 := Lib.hid ((HTt.out.below ((Below.refl _ _).drew)).below hb8)
                          clear hb8 t1 t5
                          have s1 := (ref_cells HT8.out.ref).1
                          have s5 := (ref_cells HT8.out.ref).2
                          refine hK_.out _ _ ?_ (fun hHeld_ => ?_)
                          · exact ⟨s1, s5⟩
                          refine take_op 7 (some 200) (v := ?_) rfl rfl (by kernel_rfl) (by kernel_rfl) (by kernel_rfl) (fun _ _ _ h => h) (Or.inl ⟨by rfl, ?_⟩) (by assumption) ?_
                          rotate_left
                          · intro w_ hSw_; (try dsimp only at hSw_); go_simp; (try with_reducible rfl)
                          try simp only [Act.put, List.setIfInBounds_toArray, List.set_cons_zero, List.set_cons_succ]
                          refine take_op 8 (some 201) (v := ?_) rfl rfl (by kernel_rfl) (by kernel_rfl) (by kernel_rfl) (fun _ _ _ h => h) (Or.inl ⟨by rfl, ?_⟩) (by assumption) ?_
                          rotate_left
                          · intro w_ hSw_; (try dsimp only at hSw_); go_simp; (try with_reducible rfl)
                          try simp only [Act.put, List.setIfInBounds_toArray, List.set_cons_zero, List.set_cons_succ]
                          refine take_op 9 (some 202) (v := ?_) rfl rfl (by kernel_rfl) (by kernel_rfl) (by kernel_rfl) (fun _ _ _ h => h) (Or.inl ⟨by rfl, ?_⟩) (by assumption) ?_
                          rotate_left
                          · intro w_ hSw_; (try dsimp only at hSw_); go_simp; (try with_reducible rfl)
                          try simp only [Act.put, List.setIfInBounds_toArray, List.set_cons_zero, List.set_cons_succ]
                          refine take_op 10 (some 203) (v := ?_) rfl rfl (by kernel_rfl) (by kernel_rfl) (by kernel_rfl) (fun _ _ _ h => h) (Or.inl ⟨by rfl, ?_⟩) (by assumption) ?_
                          rotate_left
                          · intro w_ hSw_; (try dsimp only at hSw_); go_simp; (try with_reducible rfl)
                          try simp only [Act.put, List.setIfInBounds_toArray, List.set_cons_zero, List.set_cons_succ]
                          refine take_op 12 (some 205) (v := ?_) rfl rfl (by kernel_rfl) (by kernel_rfl) (by kernel_rfl) (fun _ _ _ h => h) (Or.inl ⟨by rfl, ?_⟩) (by assumption) ?_
                          rotate_left
                          · intro w_ hSw_; (try dsimp only at hSw_); go_simp; (try with_reducible rfl)
                          try simp only [Act.put, List.setIfInBounds_toArray, List.set_cons_zero, List.set_cons_succ]
                          refine take_op 13 (some 206) (v := ?_) rfl rfl (by kernel_rfl) (by kernel_rfl) (by kernel_rfl) (fun _ _ _ h => h) (Or.inl ⟨by rfl, ?_⟩) (by assumption) ?_
                          rotate_left
                          · intro w_ hSw_; (try dsimp only at hSw_); go_simp; (try with_reducible rfl)
                          try simp only [Act.put, List.setIfInBounds_toArray, List.set_cons_zero, List.set_cons_succ]
                          refine take_op 14 (some 207) (v := ?_) rfl rfl (by kernel_rfl) (by kernel_rfl) (by kernel_rfl) (fun _ _ _ h => h) (Or.inl ⟨by rfl, ?_⟩) (by assumption) ?_
                          rotate_left
                          · intro w_ hSw_; (try dsimp only at hSw_); go_simp; (try with_reducible rfl)
                          try simp only [Act.put, List.setIfInBounds_toArray, List.set_cons_zero, List.set_cons_succ]
                          refine take_op 15 (some 208) (v := ?_) rfl rfl (by kernel_rfl) (by kernel_rfl) (by kernel_rfl) (fun _ _ _ h => h) (Or.inl ⟨by rfl, ?_⟩) (by assumption) ?_
                          rotate_left
                          · intro w_ hSw_; (try dsimp only at hSw_); go_simp; (try with_reducible rfl)
                          try simp only [Act.put, List.setIfInBounds_toArray, List.set_cons_zero, List.set_cons_succ]
                          refine go_op 11 rfl (by kernel_rfl) (fun K_ hK_ => ?_)
                          go_simp
                          refine (dead_any b mb m _ HT8.out.disk).mono ?_
                          rintro e w9 ⟨rfl, hw9⟩
                          have hw9 := hw9.symm
                          subst hw9
                          refine hK_.out _ _ ?_ (fun hHeld_ => ?_)
                          · exact ⟨s1, s5⟩
                          refine take_op 16 (some 209) (v := ?_) rfl rfl (by kernel_rfl) (by kernel_rfl) (by kernel_rfl) (fun _ _ _ h => h) (Or.inl ⟨by rfl, ?_⟩) (by assumption) ?_
                          rotate_left
                          · intro w_ hSw_; (try dsimp only at hSw_); go_simp; (try with_reducible rfl)
                          try simp only [Act.put, List.setIfInBounds_toArray, List.set_cons_zero, List.set_cons_succ]
                          refine take_op 17 (some 210) (v := ?_) rfl rfl (by kernel_rfl) (by kernel_rfl) (by kernel_rfl) (fun _ _ _ h => h) (Or.inl ⟨by rfl, ?_⟩) (by assumption) ?_
                          rotate_left
                          · intro w_ hSw_; (try dsimp only at hSw_); go_simp; (try with_reducible rfl)
                          try simp only [Act.put, List.setIfInBounds_toArray, List.set_cons_zero, List.set_cons_succ]
                          refine take_op 18 (some 211) (v := ?_) rfl rfl (by kernel_rfl) (by kernel_rfl) (by kernel_rfl) (fun _ _ _ h => h) (Or.inl ⟨by rfl, ?_⟩) (by assumption) ?_
                          rotate_left
                          · intro w_ hSw_; (try dsimp only at hSw_); go_simp; (try with_reducible rfl)
                          try simp only [Act.put, List.setIfInBounds_toArray, List.set_cons_zero, List.set_cons_succ]
                          refine take_op 19 (some 212) (v := ?_) rfl rfl (by kernel_rfl) (by kernel_rfl) (by kernel_rfl) (fun _ _ _ h => h) (Or.inl ⟨by rfl, ?_⟩) (by assumption) ?_
                          rotate_left
                          · intro w_ hSw_; (try dsimp only at hSw_); go_simp; (try with_reducible rfl)
                          try simp only [Act.put, List.setIfInBounds_toArray, List.set_cons_zero, List.set_cons_succ]
                          refine take_op 21 (some 214) (v := ?_) rfl rfl (by kernel_rfl) (by kernel_rfl) (by kernel_rfl) (fun _ _ _ h => h) (Or.inl ⟨by rfl, ?_⟩) (by assumption) ?_
                          rotate_left
                          · intro w_ hSw_; (try dsimp only at hSw_); go_simp; (try with_reducible rfl)
                          try simp only [Act.put, List.setIfInBounds_toArray, List.set_cons_zero, List.set_cons_succ]
                          refine take_op 22 (some 215) (v := ?_) rfl rfl (by kernel_rfl) (by kernel_rfl) (by kernel_rfl) (fun _ _ _ h => h) (Or.inl ⟨by rfl, ?_⟩) (by assumption) ?_
                          rotate_left
                          · intro w_ hSw_; (try dsimp only at hSw_); go_simp; (try with_reducible rfl)
                          try simp only [Act.put, List.setIfInBounds_toArray, List.set_cons_zero, List.set_cons_succ]
                          refine take_op 23 (some 216) (v := ?_) rfl rfl (by kernel_rfl) (by kernel_rfl) (by kernel_rfl) (fun _ _ _ h => h) (Or.inl ⟨by rfl, ?_⟩) (by assumption) ?_
                          rotate_left
                          · intro w_ hSw_; (try dsimp only at hSw_); go_simp; (try with_reducible rfl)
                          try simp only [Act.put, List.setIfInBounds_toArray, List.set_cons_zero, List.set_cons_succ]
                          refine take_op 24 (some 217) (v := ?_) rfl rfl (by kernel_rfl) (by kernel_rfl) (by kernel_rfl) (fun _ _ _ h => h) (Or.inl ⟨by rfl, ?_⟩) (by assumption) ?_
                          rotate_left
                          · intro w_ hSw_; (try dsimp only at hSw_); go_simp; (try with_reducible rfl)
                          try simp only [Act.put, List.setIfInBounds_toArray, List.set_cons_zero, List.set_cons_succ]
                          refine go_op 20 rfl (by kernel_rfl) (fun K_ hK_ => ?_)
                          go_simp
                          refine (writes_any b mb m _ HT8.out.disk).mono ?_
                          rintro e w9 ⟨rfl, hw9⟩
                          have hw9 := hw9.symm
                          subst hw9
                          refine hK_.out _ _ ?_ (fun hHeld_ => ?_)
                          · exact ⟨s1, s5⟩
                          refine take_op 25 (some 218) (v := ?_) rfl rfl (by kernel_rfl) (by kernel_rfl) (by kernel_rfl) (fun _ _ _ h => h) (Or.inl ⟨by rfl, ?_⟩) (by assumption) ?_
                          rotate_left
                          · intro w_ hSw_; (try dsimp only at hSw_); go_simp; (try with_reducible rfl)
                          try simp only [Act.put, List.setIfInBounds_toArray, List.set_cons_zero, List.set_cons_succ]
                          refine take_op 26 (some 219) (v := ?_) rfl rfl (by kernel_rfl) (by kernel_rfl) (by kernel_rfl) (fun _ _ _ h => h) (Or.inl ⟨by rfl, ?_⟩) (by assumption) ?_
                          rotate_left
                          · intro w_ hSw_; (try dsimp only at hSw_); go_simp; (try with_reducible rfl)
                          try simp only [Act.put, List.setIfInBounds_toArray, List.set_cons_zero, List.set_cons_succ]
                          refine wpAnyH_done (by kernel_rfl) ?_ _
                          go_wp2_with fail
                          go_roundw
                          case rel => exact ⟨i + 1, _, _, _, _, by omega, by go_num, HT8.out⟩
                          case measure => simp [intOf]; omega
          · have g3 : ¬ (i : Int) < (ln : Int) := by omega
            go_wp2_with fail
            refine (jp_start HJ.out).mono ?_
            rintro e w5 ⟨rfl, A5, hj5, _⟩
            have HJ5 := Lib.hid hj5
            clear hj5
            go_wp2_with fail
            refine (jq_start HJ5.out).mono ?_
            rintro e w6 ⟨rfl, A6, hj6, _⟩
            have HJ6 := Lib.hid hj6
            clear hj6
            go_wp2_with fail
            refine (same_any b mb rb sb m.start w6 HJ6.out.disk HJ6.out.ref).mono ?_
            rintro e w7 ⟨rfl, hb7⟩
            have HJ7 := Lib.hid (HJ6.out.below hb7)
            have HB := Lib.hid HJ7.out.bel
            clear hb7
            go_wp2_with fail
            refine (wakes12_any _).mono ?_
            rintro e w9 ⟨rfl, hb9⟩
            go_wp2_with fail
            go_ret
            exact ⟨rfl, (HB.out.trans (hb9.mono HB.out.size))⟩
theorem own : ownKnob Tryz.prog.godebug = none := by kernel_rfl
theorem laidOut : laidOutB Tryz.prog = true := by kernel_rfl
set_option maxRecDepth 100000 in
theorem lifted (os : Os) (started : os.Started) (H : Type) (enc : TypeId × Value → H) :
    ReturnsInHanded {} Tryz.checked os 3 .any (fun w args => (Rows.journalPlaysSpec.pre enc Tryz.prog Tryz.f3 [] false w args ∧ laidMetH Tryz.prog Rows.journalPlaysRow.laid w) ∧ sizedMet enc Tryz.prog Tryz.f3 (OpenSpec.ofChange Rows.journalPlaysSpec) false w args) (Rows.journalPlaysSpec.post enc Tryz.prog Tryz.f3 false true false false) := by
  refine returnsInHanded_of_change_and (C := Tryz.checked) (X := fun w _ => laidMetH Tryz.prog Rows.journalPlaysRow.laid w) (fun _ _ _ hh h => h.of_heap hh) own started (by kernel_rfl) Tryz.func3
    (ChangeSpec.witness_shaped (enc := enc) (C := Tryz.checked) (os := os) (X := fun w _ => laidMetH Tryz.prog Rows.journalPlaysRow.laid w) false (World.laidAll Tryz.prog os Rows.journalPlaysRow.laid) #[.int .i64 0, .slice none 0 0] 8 (World.laidAll_os _ _ _)
      (World.shaped_of_ZipB (by kernel_rfl) (by kernel_rfl)) (by kernel_rfl) (by kernel_rfl) (by kernel_rfl)
      (by rw [MakeChecks.laidMetH_plain _ _ _ (by kernel_rfl)]; exact laidMet_laidAll _ (by kernel_rfl) (by kernel_rfl))) ?_
  intro W base args ds gs before hval0 hW _ _ _hL _
  have hval : ∀ (j : Nat) t v, Tryz.f3.params[j]? = some t → args[j]? = some v → Value.okWide Tryz.prog W .any base t v := hval0
  have hW' := hW
  obtain ⟨p, q, hA0, hV, rfl, hfz, hnd⟩ := hW
  have hA : DataW.TrodAll enc Tryz.prog W 0 (fun _ => true) true Tryz.f3.params.toList args.toList ds p := hA0
  rw [Tryz.params3] at hA hval
  obtain ⟨v0, vs0, d0, ds0, p0, q0, hargs, rfl, rfl, h0, r0⟩ := trodAll_cons hA
  obtain ⟨v1, vs1, d1, ds1, p1, q1, rfl, rfl, rfl, h1, r1⟩ := trodAll_cons r0
  obtain ⟨rfl, rfl, rfl⟩ := trodAll_nil r1
  obtain rfl : args = #[v0, v1] := by cases args; simp_all
  obtain ⟨rfl, rfl⟩ := trodVars_none hV
  have k0 := h0
  have lt0 : ∀ x ∈ p0, x.block < W.heap.size := by obtain ⟨m, hm⟩ := k0; exact DataW.trod_lt m _ _ _ hm
  have k1 := h1
  have lt1 : ∀ x ∈ p1, x.block < W.heap.size := by obtain ⟨m, hm⟩ := k1; exact DataW.trod_lt m _ _ _ hm
  obtain ⟨a0, rfl, e0, f0, w0⟩ := open_int Tryz.underlying3 (hval 0 3 v0 rfl rfl) h0
  obtain ⟨ad1, ln1, cp1, e1⟩ := okWide_slice Tryz.underlying22 (hval 1 22 v1 rfl rfl)
  obtain ⟨a1, w1⟩ : ∃ a, SlR kStepJ W a v1 := by
    obtain ⟨fuel, hf⟩ := h1
    obtain ⟨a, hx⟩ := kStepsJ.opn hf
    obtain ⟨v, hv, hs⟩ := hx
    rw [e1] at hv ⊢
    simp [Value.cells] at hv
    subst hv
    exact ⟨a, hs⟩
  clear hA0 hval0
  refine (walk W a0 w0 v1 a1 w1).mono fun e W' ⟨he, bel⟩ => ?_
  subst he
  exact ⟨_, rfl, _, _, _, [], _, [], hW', trodAll_mk1 (shut_bool Tryz.underlying4 _), (trodAll_cons_mk (Below.trod laidOut (by kernel_rfl) (of_decide_eq_true (by kernel_rfl)) k0 bel lt0) (trodAll_cons_mk (Below.trod laidOut (by kernel_rfl) (of_decide_eq_true (by kernel_rfl)) k1 bel lt1) trodAll_mk0)), rfl, bel.frame _, fun h => by cases h⟩
theorem over : Rows.journalPlaysRow.holds Tryz.pinned (OpenSpec.ofChange Rows.journalPlaysSpec) :=
  OpenClaim.holds_of_wide 3 Tryz.f3 rfl rfl rfl rfl rfl rfl rfl ⟨rfl, rfl, rfl, rfl, rfl⟩ rfl rfl rfl rfl rfl (by kernel_rfl) Tryz.func3 (by kernel_rfl)
    (of_decide_eq_true (by kernel_rfl)) (by unfold Func.isWrapper; first | (rw [if_pos (by decide +kernel)]; kernel_rfl) | (rw [if_neg (by decide +kernel)]; exact ⟨rfl, rfl⟩))
    (fun os started H enc _ => lifted os started H enc)
theorem proved : Rows.JournalPlaysCardSaid :=
  Claim7.holds_tied_plain_at .later [] [.data, .pinned] true (true, "e0021575c1483e7e73e3dc73061edd69ad74febe0c9fa267b486aae39afb7686") true over (fun _ h => by cases h) (by kernel_rfl) (fun _ h => by cases h) journalPlays_row_tie rfl ⟨rfl, rfl⟩ (by kernel_rfl) rfl
    (fun f fn hf hfn => by
      obtain rfl : f = 3 := Option.some.inj ((show Tryz.prog.funcNamed Rows.journalPlaysRow.func = some 3 by kernel_rfl).symm.trans hf) |>.symm
      obtain rfl : fn = Tryz.f3 := (Option.some.inj (Tryz.func3.symm.trans hfn)).symm
      exact ⟨by kernel_rfl, fun j t ht => by
        rw [Tryz.params3] at ht
        have hm : t ∈ [3, 22] := by have h9 := Array.mem_of_getElem? ht; simp at h9 ⊢; omega
        have hall : ([3, 22].all fun u => !Tryz.prog.wantsStandIn u) = true := by kernel_rfl
        exact (show Tryz.prog.wantsStandIn t = false by simpa using List.all_eq_true.1 hall t hm)⟩)
    (by kernel_rfl)
#print axioms proved
end Go.Proofs.YtcakellhellddaaGreatDoor.journalPlays
