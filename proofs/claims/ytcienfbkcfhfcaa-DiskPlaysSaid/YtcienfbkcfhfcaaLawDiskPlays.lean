/- Sectors that are written, read, cut off and begun anew, one step behind the other: each answer, and all sectors in the end, are the document's. No condition; a longer script, or a longer text in it, than the statement's own limits asks the example alone. -/
import Derived.Test.YtcienfbkcfhfcaaRows
import Derived.Test.YtcienfbkcfhfcaaDiskFair
import Derived.Test.YtcienfbkcfhfcaaDiskSame
import Derived.ProofKit
import Derived.OpenShut
import Derived.ShutString
import Derived.ChangeOld
import Derived.Below
set_option linter.unusedSimpArgs false
set_option linter.unusedVariables false
namespace Go.Proofs.Ytcienfbkcfhfcaa.diskPlays
open Go.ChangeShapes Go.WideShapes Go.ChangeAt Go.RowKit
open Go.ChangeMaps (open_string shut_string)
/-- Both disks, each with its own model, apart from one another. -/
structure Two (w0 w : World) (b mb rb sb : Nat) (m q : DM) : Prop where
  bel : Below w0.heap.size w0 w
  disk : DiskAt w b mb m
  ref : RefAt w rb sb q
  e1 : w0.heap.size ≤ b
  e2 : w0.heap.size ≤ mb
  e3 : w0.heap.size ≤ rb
  e4 : w0.heap.size ≤ sb
  n1 : rb ≠ b ∧ rb ≠ mb
  n2 : sb ≠ b ∧ sb ≠ mb
theorem Two.grow {w0 w w' : World} {b mb rb sb : Nat} {m q : DM} (h : Two w0 w b mb rb sb m q) (hb : Below w.heap.size w w') : Two w0 w' b mb rb sb m q :=
  ⟨h.bel.trans (hb.mono h.bel.size), h.disk.grown hb, h.ref.grown hb, h.e1, h.e2, h.e3, h.e4, h.n1, h.n2⟩
theorem Two.ofDisk {w0 w w' : World} {b mb rb sb : Nat} {m m' q : DM} (h : Two w0 w b mb rb sb m q) (hd : DiskAt w' b mb m') (ho : Only (own2 b mb) w w') : Two w0 w' b mb rb sb m' q :=
  have h1 := h.e1
  have h2 := h.e2
  ⟨h.bel.trans (ho.below h.bel.size (fun k hk e => by rcases e with rfl | rfl <;> omega)), hd, h.ref.only ho (fun e => by rcases e with e | e; exact h.n1.1 e; exact h.n1.2 e) (fun e => by rcases e with e | e; exact h.n2.1 e; exact h.n2.2 e), h1, h2, h.e3, h.e4, h.n1, h.n2⟩
theorem Two.ofRef {w0 w w' : World} {b mb rb sb : Nat} {m q q' : DM} (h : Two w0 w b mb rb sb m q) (hd : RefAt w' rb sb q') (ho : Only (own2 rb sb) w w') : Two w0 w' b mb rb sb m q' :=
  have h1 := h.e3
  have h2 := h.e4
  ⟨h.bel.trans (ho.below h.bel.size (fun k hk e => by rcases e with rfl | rfl <;> omega)), h.disk.only ho (fun e => by rcases e with e | e; exact h.n1.1 e.symm; exact h.n2.1 e.symm) (fun e => by rcases e with e | e; exact h.n1.2 e.symm; exact h.n2.2 e.symm), hd, h.e1, h.e2, h1, h2, h.n1, h.n2⟩
theorem ref_cells {w : World} {rb sb : Nat} {m : DM} (h : RefAt w rb sb m) : w.cell? ⟨rb, 1, none⟩ = some (.bool m.dead) ∧ w.cell? ⟨rb, 5, none⟩ = some (.int .i64 m.writes) := by
  obtain ⟨_, _, l, cap, cur, hb, _⟩ := h
  exact ⟨hb.cell 1, hb.cell 5⟩
set_option maxRecDepth 100000 in
set_option maxHeartbeats 4000000 in
theorem walk (w : World) (n : Int) (hn : (Lit.int .i64 n).wf = true) (v : Value) (l : List StepT) (h : SlR kStep w l v) :
    Calls Try.prog 7 #[.int .i64 n, v] w fun e w' => e = .returned (.bool true) ∧ Below w.heap.size w w' := by
  have hn := wf64_of hn
  unfold wf64 at hn
  have hsl := Lib.hid h
  obtain ⟨ad, cap, rfl, h2, h3, h4⟩ := steps_cells h
  have H4 := Lib.hid h4
  clear h h4
  unfold maxLen at h3
  by_cases hf : fairB l = true
  · have HF := Lib.hid hf
    clear hf
    have hl : l.length ≤ 150 := by
      have := HF.out
      unfold fairB at this
      simp only [Bool.and_eq_true, decide_eq_true_eq] at this
      exact this.2
    by_cases hr : n < 1 ∨ 4096 < n
    · go_enter Try.func7, Try.ntmps7
      go_wp2_with fail
      refine (fair_any _ _ _ hsl.out).mono ?_
      rintro e w1 ⟨rfl, hw1⟩
      have hw1 := hw1.symm
      subst hw1
      rw [HF.out]
      go_wp2_with fail
      refine (new_bad n hr _).mono ?_
      rintro e w1 ⟨rfl, hw1⟩
      have hw1 := hw1.symm
      subst hw1
      go_wp2_with fail
      refine (ref_new_bad n hr _).mono ?_
      rintro e w1 ⟨rfl, hw1⟩
      have hw1 := hw1.symm
      subst hw1
      clear hr hn
      go_wp2_with fail
      go_loopw [9] (fun v wr => v = .int .i64 0 ∧ wr = w) (fun v _ => 0)
      case atStart => exact ⟨rfl, rfl⟩
      case round =>
        obtain ⟨rfl, rfl⟩ := hrel
        by_cases hlz : 0 < l.length
        · go_wp2_with fail
          refine (wakes11_any _).mono ?_
          rintro e w2 ⟨rfl, hb2⟩
          go_wp2_with fail
          go_ret
          exact ⟨rfl, hb2⟩
        · go_wp2_with fail
          refine (wakes11_any _).mono ?_
          rintro e w2 ⟨rfl, hb2⟩
          go_wp2_with fail
          go_ret
          exact ⟨rfl, hb2⟩
    · obtain ⟨N, rfl⟩ := Int.eq_ofNat_of_zero_le (show 0 ≤ n by omega)
      have hN1 : 1 ≤ N := by omega
      have hN2 : N ≤ 4096 := by omega
      clear hr hn
      go_enter Try.func7, Try.ntmps7
      go_wp2_with fail
      refine (fair_any _ _ _ hsl.out).mono ?_
      rintro e w1 ⟨rfl, hw1⟩
      have hw1 := hw1.symm
      subst hw1
      rw [HF.out]
      go_wp2_with fail
      refine (new_any N hN1 hN2 _).mono ?_
      rintro e w1 ⟨b, mb, rfl, hd1, hb1, hg1, hg2⟩
      go_wp2_with fail
      refine (ref_new N hN1 hN2 _).mono ?_
      rintro e w2 ⟨rb, sb, rfl, hd2, hb2, hg3, hg4⟩
      have HT0 : Hid (Two w w2 b mb rb sb (dNew N) (dNew N)) := by
        have q1 := hd1.lt
        have q2 := hb1.size
        exact Lib.hid ⟨hb1.trans (hb2.mono q2), hd1.grown hb2, hd2, hg1, hg2, by omega, by omega, by omega, by omega⟩
      clear hd1 hb1 hg1 hg2 hd2 hb2 hg3 hg4
      go_wp2_with fail
      go_loopw [9] (fun v wr => ∃ (i : Nat) (m : DM), i ≤ l.length ∧ v = .int .i64 i ∧ Two w wr b mb rb sb m m) (fun v _ => l.length - (intOf v).toNat)
      case atStart => exact ⟨0, dNew N, Nat.zero_le _, rfl, HT0.out⟩
      case round =>
        clear HT0
        obtain ⟨i, m, hi, rfl, hT⟩ := hrel
        have HT := Lib.hid hT
        clear hT
        by_cases hlt : i < l.length
        · obtain ⟨x, hx⟩ : ∃ x, l[i]? = some x := ⟨_, List.getElem?_eq_getElem hlt⟩
          obtain ⟨xb, xo, rfl, c0, c1, c2, c3, _, _, _, hs⟩ := H4.out i x hx
          have hxb : xb < w.heap.size := World.block_lt_of_cell? w ⟨xb, xo + i * 4, none⟩ c0
          have d0 : wr.cell? ⟨xb, xo + i * 4, none⟩ = some (.int .i64 x.1) := (HT.out.bel.cell (p := ⟨xb, xo + i * 4, none⟩) hxb).trans c0
          have d1 : wr.cell? ⟨xb, xo + i * 4 + 1, none⟩ = some (.int .i64 x.2.1) := (HT.out.bel.cell (p := ⟨xb, xo + i * 4 + 1, none⟩) hxb).trans c1
          have d2 : wr.cell? ⟨xb, xo + i * 4 + 2, none⟩ = some (.int .i64 x.2.2.1) := (HT.out.bel.cell (p := ⟨xb, xo + i * 4 + 2, none⟩) hxb).trans c2
          have d3 : wr.cell? ⟨xb, xo + i * 4 + 3, none⟩ = some (.string x.2.2.2.1) := (HT.out.bel.cell (p := ⟨xb, xo + i * 4 + 3, none⟩) hxb).trans c3
          clear c0 c1 c2 c3 hx H4
          obtain ⟨k, nn, pp, ss, uu⟩ := x
          simp only at d0 d1 d2 d3 hs
          have HA : Hid (Two w (wr.alloc (.cells #[.int .i64 k, .int .i64 nn, .int .i64 pp, .string ss] 44)) b mb rb sb m m) := Lib.hid (HT.out.grow ((Below.refl _ _).alloc (Nat.le_refl _) _))
          have hB := Blk.new wr #[.int .i64 k, .int .i64 nn, .int .i64 pp, .string ss] 44
          have hb9 := HA.out.disk.lt
          have hb10 := HA.out.ref.lt
          have hbd := HT.out.disk.lt
          have hbr := HT.out.ref.lt
          by_cases hk0 : k = 0
          · subst hk0
            go_wp2_with fail
            revert HA hB
            generalize wr.alloc (.cells #[.int .i64 0, .int .i64 nn, .int .i64 pp, .string ss] 44) = wa
            intro HA hB
            have x1 : wa.cell? ⟨wr.heap.size, 1, none⟩ = some (.int .i64 nn) := hB.cell 1
            have x3 : wa.cell? ⟨wr.heap.size, 3, none⟩ = some (.string ss) := hB.cell 3
            have HA0 : Hid (Two w wa.drew b mb rb sb m m) := Lib.hid (HA.out.grow ((Below.refl _ _).drew))
            refine wp_region_held_drew (S := fun w1 => w1.cell? ⟨wr.heap.size, 1, none⟩ = some (.int .i64 nn) ∧ w1.cell? ⟨wr.heap.size, 3, none⟩ = some (.string ss)) (by kernel_rfl) ?_ (fun hHeld => ?_)
            · exact ⟨x1, x3⟩
            refine take_op 0 (some 57) (v := ?_) rfl rfl (by kernel_rfl) (by kernel_rfl) (by kernel_rfl) (fun _ _ _ h => h) (Or.inl ⟨by rfl, ?_⟩) (by assumption) ?_
            rotate_left
            · intro w_ hSw_; (try dsimp only at hSw_); go_simp; (try with_reducible rfl)
            try simp only [Act.put, List.setIfInBounds_toArray, List.set_cons_zero, List.set_cons_succ]
            refine take_op 1 (some 58) (v := ?_) rfl rfl (by kernel_rfl) (by kernel_rfl) (by kernel_rfl) (fun _ _ _ h => h) (Or.inl ⟨by rfl, ?_⟩) (by assumption) ?_
            rotate_left
            · intro w_ hSw_; (try dsimp only at hSw_); go_simp; (try with_reducible rfl)
            try simp only [Act.put, List.setIfInBounds_toArray, List.set_cons_zero, List.set_cons_succ]
            refine take_op 2 (some 59) (v := ?_) rfl rfl (by kernel_rfl) (by kernel_rfl) (by kernel_rfl) (fun _ _ _ h => h) (Or.inl ⟨by rfl, ?_⟩) (by assumption) ?_
            rotate_left
            · intro w_ hSw_; (try dsimp only at hSw_); go_simp; (try with_reducible rfl)
            try simp only [Act.put, List.setIfInBounds_toArray, List.set_cons_zero, List.set_cons_succ]
            refine take_op 3 (some 60) (v := ?_) rfl rfl (by kernel_rfl) (by kernel_rfl) (by kernel_rfl) (fun _ _ _ h => h) (Or.inl ⟨by rfl, ?_⟩) (by assumption) ?_
            rotate_left
            · intro w_ hSw_; (try dsimp only at hSw_); go_simp; (try with_reducible rfl)
            try simp only [Act.put, List.setIfInBounds_toArray, List.set_cons_zero, List.set_cons_succ]
            refine take_op 4 (some 61) (v := ?_) rfl rfl (by kernel_rfl) (by kernel_rfl) (by kernel_rfl) (fun _ _ _ h => h) (Or.inl ⟨by rfl, ?_⟩) (by assumption) ?_
            rotate_left
            · intro w_ hSw_; (try dsimp only at hSw_); go_simp; (try with_reducible rfl)
            try simp only [Act.put, List.setIfInBounds_toArray, List.set_cons_zero, List.set_cons_succ]
            refine take_op 6 (some 63) (v := ?_) rfl rfl (by kernel_rfl) (by kernel_rfl) (by kernel_rfl) (fun _ _ _ h => h) (Or.inl ⟨by rfl, ?_⟩) (by assumption) ?_
            rotate_left
            · intro w_ hSw_; (try dsimp only at hSw_); go_simp; (try with_reducible rfl)
            try simp only [Act.put, List.setIfInBounds_toArray, List.set_cons_zero, List.set_cons_succ]
            refine take_op 7 (some 64) (v := ?_) rfl rfl (by kernel_rfl) (by kernel_rfl) (by kernel_rfl) (fun _ _ _ h => h) (Or.inl ⟨by rfl, ?_⟩) (by assumption) ?_
            rotate_left
            · intro w_ hSw_; (try dsimp only at hSw_); go_simp; (try with_reducible rfl)
            try simp only [Act.put, List.setIfInBounds_toArray, List.set_cons_zero, List.set_cons_succ]
            refine take_op 8 (some 65) (v := ?_) rfl rfl (by kernel_rfl) (by kernel_rfl) (by kernel_rfl) (fun _ _ _ h => h) (Or.inl ⟨by rfl, ?_⟩) (by assumption) ?_
            rotate_left
            · intro w_ hSw_; (try dsimp only at hSw_); go_simp; (try with_reducible rfl)
            try simp only [Act.put, List.setIfInBounds_toArray, List.set_cons_zero, List.set_cons_succ]
            refine take_op 9 (some 66) (v := ?_) rfl rfl (by kernel_rfl) (by kernel_rfl) (by kernel_rfl) (fun _ _ _ h => h) (Or.inl ⟨by rfl, ?_⟩) (by assumption) ?_
            rotate_left
            · intro w_ hSw_; (try dsimp only at hSw_); go_simp; (try with_reducible rfl)
            try simp only [Act.put, List.setIfInBounds_toArray, List.set_cons_zero, List.set_cons_succ]
            refine take_op 10 (some 67) (v := ?_) rfl rfl (by kernel_rfl) (by kernel_rfl) (by kernel_rfl) (fun _ _ _ h => h) (Or.inl ⟨by rfl, ?_⟩) (by assumption) ?_
            rotate_left
            · intro w_ hSw_; (try dsimp only at hSw_); go_simp; (try with_reducible rfl)
            try simp only [Act.put, List.setIfInBounds_toArray, List.set_cons_zero, List.set_cons_succ]
            refine go_op 5 rfl (by kernel_rfl) (fun K_ hK_ => ?_)
            go_simp
            refine (write_any b mb m nn ss _ HA0.out.disk hs).mono ?_
            rintro e w5 ⟨rfl, hd5, ho5⟩
            have HT5 := Lib.hid (HA0.out.ofDisk hd5 ho5)
            have hB5 := ho5.blk hB.drew (fun e => by rcases e with e | e <;> omega)
            clear hd5 ho5 HA0 HA
            refine hK_.out _ _ ?_ (fun hHeld_ => ?_)
            · exact ⟨hB5.cell 1, hB5.cell 3⟩
            refine go_op 11 rfl (by kernel_rfl) (fun K_ hK_ => ?_)
            go_simp
            refine (ref_write rb sb m nn ss _ HT5.out.ref).mono ?_
            rintro e w6 ⟨rfl, hd6, ho6⟩
            have HT6 := Lib.hid (HT5.out.ofRef hd6 ho6)
            have hB6 := ho6.blk hB5 (fun e => by rcases e with e | e <;> omega)
            clear hd6 ho6 HT5
            refine hK_.out _ _ ?_ (fun hHeld_ => ?_)
            · exact ⟨hB6.cell 1, hB6.cell 3⟩
            refine take_op 12 (some 69) (v := ?_) rfl rfl (by kernel_rfl) (by kernel_rfl) (by kernel_rfl) (fun _ _ _ h => h) (Or.inl ⟨by rfl, ?_⟩) (by assumption) ?_
            rotate_left
            · intro w_ hSw_; (try dsimp only at hSw_); go_simp; (try with_reducible rfl)
            try simp only [Act.put, List.setIfInBounds_toArray, List.set_cons_zero, List.set_cons_succ]
            refine wpAnyH_done (by kernel_rfl) ?_ _
            generalize (m.write nn ss).1 = mt at HT6 ⊢
            generalize (m.write nn ss).2 = rt
            have HTt := HT6
            have t1 := (ref_cells HTt.out.ref).1
            have t5 := (ref_cells HTt.out.ref).2
            have HDt : Hid (DiskAt w6.drew b mb mt) := Lib.hid (HTt.out.disk.grown ((Below.refl _ _).drew))
            go_wp2_with fail
            refine wp_region_held_drew (S := fun w1 => w1.cell? ⟨rb, 1, none⟩ = some (.bool mt.dead) ∧ w1.cell? ⟨rb, 5, none⟩ = some (.int .i64 mt.writes)) (by kernel_rfl) ?_ (fun hHeld => ?_)
            · exact ⟨t1, t5⟩
            refine take_op 0 (some 115) (v := ?_) rfl rfl (by kernel_rfl) (by kernel_rfl) (by kernel_rfl) (fun _ _ _ h => h) (Or.inl ⟨by rfl, ?_⟩) (by assumption) ?_
            rotate_left
            · intro w_ hSw_; (try dsimp only at hSw_); go_simp; (try with_reducible rfl)
            try simp only [Act.put, List.setIfInBounds_toArray, List.set_cons_zero, List.set_cons_succ]
            refine take_op 2 (some 117) (v := ?_) rfl rfl (by kernel_rfl) (by kernel_rfl) (by kernel_rfl) (fun _ _ _ h => h) (Or.inl ⟨by rfl, ?_⟩) (by assumption) ?_
            rotate_left
            · intro w_ hSw_; (try dsimp only at hSw_); go_simp; (try with_reducible rfl)
            try simp only [Act.put, List.setIfInBounds_toArray, List.set_cons_zero, List.set_cons_succ]
            refine take_op 3 (some 118) (v := ?_) rfl rfl (by kernel_rfl) (by kernel_rfl) (by kernel_rfl) (fun _ _ _ h => h) (Or.inl ⟨by rfl, ?_⟩) (by assumption) ?_
            rotate_left
            · intro w_ hSw_; (try dsimp only at hSw_); go_simp; (try with_reducible rfl)
            try simp only [Act.put, List.setIfInBounds_toArray, List.set_cons_zero, List.set_cons_succ]
            refine take_op 4 (some 119) (v := ?_) rfl rfl (by kernel_rfl) (by kernel_rfl) (by kernel_rfl) (fun _ _ _ h => h) (Or.inl ⟨by rfl, ?_⟩) (by assumption) ?_
            rotate_left
            · intro w_ hSw_; (try dsimp only at hSw_); go_simp; (try with_reducible rfl)
            try simp only [Act.put, List.setIfInBounds_toArray, List.set_cons_zero, List.set_cons_succ]
            refine take_op 5 (some 120) (v := ?_) rfl rfl (by kernel_rfl) (by kernel_rfl) (by kernel_rfl) (fun _ _ _ h => h) (Or.inl ⟨by rfl, ?_⟩) (by assumption) ?_
            rotate_left
            · intro w_ hSw_; (try dsimp only at hSw_); go_simp; (try with_reducible rfl)
            try simp only [Act.put, List.setIfInBounds_toArray, List.set_cons_zero, List.set_cons_succ]
            refine go_op 1 rfl (by kernel_rfl) (fun K_ hK_ => ?_)
            go_simp
            refine (dead_any b mb mt _ HDt.out).mono ?_
            rintro e w8 ⟨rfl, hw8⟩
            have hw8 := hw8.symm
            subst hw8
            refine hK_.out _ _ ?_ (fun hHeld_ => ?_)
            · exact ⟨t1, t5⟩
            refine take_op 6 (some 121) (v := ?_) rfl rfl (by kernel_rfl) (by kernel_rfl) (by kernel_rfl) (fun _ _ _ h => h) (Or.inl ⟨by rfl, ?_⟩) (by assumption) ?_
            rotate_left
            · intro w_ hSw_; (try dsimp only at hSw_); go_simp; (try with_reducible rfl)
            try simp only [Act.put, List.setIfInBounds_toArray, List.set_cons_zero, List.set_cons_succ]
            refine take_op 7 (some 122) (v := ?_) rfl rfl (by kernel_rfl) (by kernel_rfl) (by kernel_rfl) (fun _ _ _ h => h) (Or.inl ⟨by rfl, ?_⟩) (by assumption) ?_
            rotate_left
            · intro w_ hSw_; (try dsimp only at hSw_); go_simp; (try with_reducible rfl)
            try simp only [Act.put, List.setIfInBounds_toArray, List.set_cons_zero, List.set_cons_succ]
            refine take_op 8 (some 123) (v := ?_) rfl rfl (by kernel_rfl) (by kernel_rfl) (by kernel_rfl) (fun _ _ _ h => h) (Or.inl ⟨by rfl, ?_⟩) (by assumption) ?_
            rotate_left
            · intro w_ hSw_; (try dsimp only at hSw_); go_simp; (try with_reducible rfl)
            try simp only [Act.put, List.setIfInBounds_toArray, List.set_cons_zero, List.set_cons_succ]
            refine take_op 10 (some 125) (v := ?_) rfl rfl (by kernel_rfl) (by kernel_rfl) (by kernel_rfl) (fun _ _ _ h => h) (Or.inl ⟨by rfl, ?_⟩) (by assumption) ?_
            rotate_left
            · intro w_ hSw_; (try dsimp only at hSw_); go_simp; (try with_reducible rfl)
            try simp only [Act.put, List.setIfInBounds_toArray, List.set_cons_zero, List.set_cons_succ]
            refine take_op 11 (some 126) (v := ?_) rfl rfl (by kernel_rfl) (by kernel_rfl) (by kernel_rfl) (fun _ _ _ h => h) (Or.inl ⟨by rfl, ?_⟩) (by assumption) ?_
            rotate_left
            · intro w_ hSw_; (try dsimp only at hSw_); go_simp; (try with_reducible rfl)
            try simp only [Act.put, List.setIfInBounds_toArray, List.set_cons_zero, List.set_cons_succ]
            refine take_op 12 (some 127) (v := ?_) rfl rfl (by kernel_rfl) (by kernel_rfl) (by kernel_rfl) (fun _ _ _ h => h) (Or.inl ⟨by rfl, ?_⟩) (by assumption) ?_
            rotate_left
            · intro w_ hSw_; (try dsimp only at hSw_); go_simp; (try with_reducible rfl)
            try simp only [Act.put, List.setIfInBounds_toArray, List.set_cons_zero, List.set_cons_succ]
            refine take_op 13 (some 128) (v := ?_) rfl rfl (by kernel_rfl) (by kernel_rfl) (by kernel_rfl) (fun _ _ _ h => h) (Or.inl ⟨by rfl, ?_⟩) (by assumption) ?_
            rotate_left
            · intro w_ hSw_; (try dsimp only at hSw_); go_simp; (try with_reducible rfl)
            try simp only [Act.put, List.setIfInBounds_toArray, List.set_cons_zero, List.set_cons_succ]
            refine go_op 9 rfl (by kernel_rfl) (fun K_ hK_ => ?_)
            go_simp
            refine (writes_any b mb mt _ HDt.out).mono ?_
            rintro e w9 ⟨rfl, hw9⟩
            have hw9 := hw9.symm
            subst hw9
            refine hK_.out _ _ ?_ (fun hHeld_ => ?_)
            · exact ⟨t1, t5⟩
            refine take_op 14 (some 129) (v := ?_) rfl rfl (by kernel_rfl) (by kernel_rfl) (by kernel_rfl) (fun _ _ _ h => h) (Or.inl ⟨by rfl, ?_⟩) (by assumption) ?_
            rotate_left
            · intro w_ hSw_; (try dsimp only at hSw_); go_simp; (try with_reducible rfl)
            try simp only [Act.put, List.setIfInBounds_toArray, List.set_cons_zero, List.set_cons_succ]
            refine take_op 15 (some 130) (v := ?_) rfl rfl (by kernel_rfl) (by kernel_rfl) (by kernel_rfl) (fun _ _ _ h => h) (Or.inl ⟨by rfl, ?_⟩) (by assumption) ?_
            rotate_left
            · intro w_ hSw_; (try dsimp only at hSw_); go_simp; (try with_reducible rfl)
            try simp only [Act.put, List.setIfInBounds_toArray, List.set_cons_zero, List.set_cons_succ]
            refine wpAnyH_done (by kernel_rfl) ?_ _
            go_wp2_with fail
            go_roundw
            case rel => exact ⟨i + 1, mt, by omega, by go_num, HTt.out.grow ((Below.refl _ _).drew)⟩
            case measure => simp [intOf]; omega
          · by_cases hk1 : k = 1
            · subst hk1
              go_wp2_with fail
              revert HA hB
              generalize wr.alloc (.cells #[.int .i64 1, .int .i64 nn, .int .i64 pp, .string ss] 44) = wa
              intro HA hB
              refine (read_any b mb m nn wa HA.out.disk).mono ?_
              rintro e w5 ⟨rfl, hb5⟩
              have HT5 := Lib.hid (HA.out.grow hb5)
              have hB5 := hB.below hb5 hB.lt
              have x1 : w5.cell? ⟨wr.heap.size, 1, none⟩ = some (.int .i64 nn) := hB5.cell 1
              clear HA hB hb5
              go_wp2_with fail
              refine (ref_read rb sb m nn w5 HT5.out.ref).mono ?_
              rintro e w6 ⟨rfl, hw6⟩
              have hw6 := hw6.symm
              subst hw6
              generalize (m.read nn).1 = r1
              generalize (m.read nn).2 = r2
              have HTt := HT5
              have t1 := (ref_cells HTt.out.ref).1
              have t5 := (ref_cells HTt.out.ref).2
              have HDt : Hid (DiskAt w5.drew b mb m) := Lib.hid (HTt.out.disk.grown ((Below.refl _ _).drew))
              go_wp2_with fail
              refine wp_region_held_drew (S := fun w1 => w1.cell? ⟨rb, 1, none⟩ = some (.bool m.dead) ∧ w1.cell? ⟨rb, 5, none⟩ = some (.int .i64 m.writes)) (by kernel_rfl) ?_ (fun hHeld => ?_)
              · exact ⟨t1, t5⟩
              refine take_op 0 (some 115) (v := ?_) rfl rfl (by kernel_rfl) (by kernel_rfl) (by kernel_rfl) (fun _ _ _ h => h) (Or.inl ⟨by rfl, ?_⟩) (by assumption) ?_
              rotate_left
              · intro w_ hSw_; (try dsimp only at hSw_); go_simp; (try with_reducible rfl)
              try simp only [Act.put, List.setIfInBounds_toArray, List.set_cons_zero, List.set_cons_succ]
              refine take_op 2 (some 117) (v := ?_) rfl rfl (by kernel_rfl) (by kernel_rfl) (by kernel_rfl) (fun _ _ _ h => h) (Or.inl ⟨by rfl, ?_⟩) (by assumption) ?_
              rotate_left
              · intro w_ hSw_; (try dsimp only at hSw_); go_simp; (try with_reducible rfl)
              try simp only [Act.put, List.setIfInBounds_toArray, List.set_cons_zero, List.set_cons_succ]
              refine take_op 3 (some 118) (v := ?_) rfl rfl (by kernel_rfl) (by kernel_rfl) (by kernel_rfl) (fun _ _ _ h => h) (Or.inl ⟨by rfl, ?_⟩) (by assumption) ?_
              rotate_left
              · intro w_ hSw_; (try dsimp only at hSw_); go_simp; (try with_reducible rfl)
              try simp only [Act.put, List.setIfInBounds_toArray, List.set_cons_zero, List.set_cons_succ]
              refine take_op 4 (some 119) (v := ?_) rfl rfl (by kernel_rfl) (by kernel_rfl) (by kernel_rfl) (fun _ _ _ h => h) (Or.inl ⟨by rfl, ?_⟩) (by assumption) ?_
              rotate_left
              · intro w_ hSw_; (try dsimp only at hSw_); go_simp; (try with_reducible rfl)
              try simp only [Act.put, List.setIfInBounds_toArray, List.set_cons_zero, List.set_cons_succ]
              refine take_op 5 (some 120) (v := ?_) rfl rfl (by kernel_rfl) (by kernel_rfl) (by kernel_rfl) (fun _ _ _ h => h) (Or.inl ⟨by rfl, ?_⟩) (by assumption) ?_
              rotate_left
              · intro w_ hSw_; (try dsimp only at hSw_); go_simp; (try with_reducible rfl)
              try simp only [Act.put, List.setIfInBounds_toArray, List.set_cons_zero, List.set_cons_succ]
              refine go_op 1 rfl (by kernel_rfl) (fun K_ hK_ => ?_)
              go_simp
              refine (dead_any b mb m _ HDt.out).mono ?_
              rintro e w8 ⟨rfl, hw8⟩
              have hw8 := hw8.symm
              subst hw8
              refine hK_.out _ _ ?_ (fun hHeld_ => ?_)
              · exact ⟨t1, t5⟩
              refine take_op 6 (some 121) (v := ?_) rfl rfl (by kernel_rfl) (by kernel_rfl) (by kernel_rfl) (fun _ _ _ h => h) (Or.inl ⟨by rfl, ?_⟩) (by assumption) ?_
              rotate_left
              · intro w_ hSw_; (try dsimp only at hSw_); go_simp; (try with_reducible rfl)
              try simp only [Act.put, List.setIfInBounds_toArray, List.set_cons_zero, List.set_cons_succ]
              refine take_op 7 (some 122) (v := ?_) rfl rfl (by kernel_rfl) (by kernel_rfl) (by kernel_rfl) (fun _ _ _ h => h) (Or.inl ⟨by rfl, ?_⟩) (by assumption) ?_
              rotate_left
              · intro w_ hSw_; (try dsimp only at hSw_); go_simp; (try with_reducible rfl)
              try simp only [Act.put, List.setIfInBounds_toArray, List.set_cons_zero, List.set_cons_succ]
              refine take_op 8 (some 123) (v := ?_) rfl rfl (by kernel_rfl) (by kernel_rfl) (by kernel_rfl) (fun _ _ _ h => h) (Or.inl ⟨by rfl, ?_⟩) (by assumption) ?_
              rotate_left
              · intro w_ hSw_; (try dsimp only at hSw_); go_simp; (try with_reducible rfl)
              try simp only [Act.put, List.setIfInBounds_toArray, List.set_cons_zero, List.set_cons_succ]
              refine take_op 10 (some 125) (v := ?_) rfl rfl (by kernel_rfl) (by kernel_rfl) (by kernel_rfl) (fun _ _ _ h => h) (Or.inl ⟨by rfl, ?_⟩) (by assumption) ?_
              rotate_left
              · intro w_ hSw_; (try dsimp only at hSw_); go_simp; (try with_reducible rfl)
              try simp only [Act.put, List.setIfInBounds_toArray, List.set_cons_zero, List.set_cons_succ]
              refine take_op 11 (some 126) (v := ?_) rfl rfl (by kernel_rfl) (by kernel_rfl) (by kernel_rfl) (fun _ _ _ h => h) (Or.inl ⟨by rfl, ?_⟩) (by assumption) ?_
              rotate_left
              · intro w_ hSw_; (try dsimp only at hSw_); go_simp; (try with_reducible rfl)
              try simp only [Act.put, List.setIfInBounds_toArray, List.set_cons_zero, List.set_cons_succ]
              refine take_op 12 (some 127) (v := ?_) rfl rfl (by kernel_rfl) (by kernel_rfl) (by kernel_rfl) (fun _ _ _ h => h) (Or.inl ⟨by rfl, ?_⟩) (by assumption) ?_
              rotate_left
              · intro w_ hSw_; (try dsimp only at hSw_); go_simp; (try with_reducible rfl)
              try simp only [Act.put, List.setIfInBounds_toArray, List.set_cons_zero, List.set_cons_succ]
              refine take_op 13 (some 128) (v := ?_) rfl rfl (by kernel_rfl) (by kernel_rfl) (by kernel_rfl) (fun _ _ _ h => h) (Or.inl ⟨by rfl, ?_⟩) (by assumption) ?_
              rotate_left
              · intro w_ hSw_; (try dsimp only at hSw_); go_simp; (try with_reducible rfl)
              try simp only [Act.put, List.setIfInBounds_toArray, List.set_cons_zero, List.set_cons_succ]
              refine go_op 9 rfl (by kernel_rfl) (fun K_ hK_ => ?_)
              go_simp
              refine (writes_any b mb m _ HDt.out).mono ?_
              rintro e w9 ⟨rfl, hw9⟩
              have hw9 := hw9.symm
              subst hw9
              refine hK_.out _ _ ?_ (fun hHeld_ => ?_)
              · exact ⟨t1, t5⟩
              refine take_op 14 (some 129) (v := ?_) rfl rfl (by kernel_rfl) (by kernel_rfl) (by kernel_rfl) (fun _ _ _ h => h) (Or.inl ⟨by rfl, ?_⟩) (by assumption) ?_
              rotate_left
              · intro w_ hSw_; (try dsimp only at hSw_); go_simp; (try with_reducible rfl)
              try simp only [Act.put, List.setIfInBounds_toArray, List.set_cons_zero, List.set_cons_succ]
              refine take_op 15 (some 130) (v := ?_) rfl rfl (by kernel_rfl) (by kernel_rfl) (by kernel_rfl) (fun _ _ _ h => h) (Or.inl ⟨by rfl, ?_⟩) (by assumption) ?_
              rotate_left
              · intro w_ hSw_; (try dsimp only at hSw_); go_simp; (try with_reducible rfl)
              try simp only [Act.put, List.setIfInBounds_toArray, List.set_cons_zero, List.set_cons_succ]
              refine wpAnyH_done (by kernel_rfl) ?_ _
              go_wp2_with fail
              go_roundw
              case rel => exact ⟨i + 1, m, by omega, by go_num, HTt.out.grow ((Below.refl _ _).drew)⟩
              case measure => simp [intOf]; omega
            · by_cases hk2 : k = 2
              · subst hk2
                go_wp2_with fail
                revert HA hB
                generalize wr.alloc (.cells #[.int .i64 2, .int .i64 nn, .int .i64 pp, .string ss] 44) = wa
                intro HA hB
                have x1 : wa.cell? ⟨wr.heap.size, 1, none⟩ = some (.int .i64 nn) := hB.cell 1
                have x3 : wa.cell? ⟨wr.heap.size, 2, none⟩ = some (.int .i64 pp) := hB.cell 2
                have HA0 : Hid (Two w wa.drew b mb rb sb m m) := Lib.hid (HA.out.grow ((Below.refl _ _).drew))
                refine wp_region_held_drew (S := fun w1 => w1.cell? ⟨wr.heap.size, 1, none⟩ = some (.int .i64 nn) ∧ w1.cell? ⟨wr.heap.size, 2, none⟩ = some (.int .i64 pp)) (by kernel_rfl) ?_ (fun hHeld => ?_)
                · exact ⟨x1, x3⟩
                refine take_op 0 (some 96) (v := ?_) rfl rfl (by kernel_rfl) (by kernel_rfl) (by kernel_rfl) (fun _ _ _ h => h) (Or.inl ⟨by rfl, ?_⟩) (by assumption) ?_
                rotate_left
                · intro w_ hSw_; (try dsimp only at hSw_); go_simp; (try with_reducible rfl)
                try simp only [Act.put, List.setIfInBounds_toArray, List.set_cons_zero, List.set_cons_succ]
                refine take_op 1 (some 97) (v := ?_) rfl rfl (by kernel_rfl) (by kernel_rfl) (by kernel_rfl) (fun _ _ _ h => h) (Or.inl ⟨by rfl, ?_⟩) (by assumption) ?_
                rotate_left
                · intro w_ hSw_; (try dsimp only at hSw_); go_simp; (try with_reducible rfl)
                try simp only [Act.put, List.setIfInBounds_toArray, List.set_cons_zero, List.set_cons_succ]
                refine take_op 2 (some 98) (v := ?_) rfl rfl (by kernel_rfl) (by kernel_rfl) (by kernel_rfl) (fun _ _ _ h => h) (Or.inl ⟨by rfl, ?_⟩) (by assumption) ?_
                rotate_left
                · intro w_ hSw_; (try dsimp only at hSw_); go_simp; (try with_reducible rfl)
                try simp only [Act.put, List.setIfInBounds_toArray, List.set_cons_zero, List.set_cons_succ]
                refine take_op 3 (some 99) (v := ?_) rfl rfl (by kernel_rfl) (by kernel_rfl) (by kernel_rfl) (fun _ _ _ h => h) (Or.inl ⟨by rfl, ?_⟩) (by assumption) ?_
                rotate_left
                · intro w_ hSw_; (try dsimp only at hSw_); go_simp; (try with_reducible rfl)
                try simp only [Act.put, List.setIfInBounds_toArray, List.set_cons_zero, List.set_cons_succ]
                refine take_op 4 (some 100) (v := ?_) rfl rfl (by kernel_rfl) (by kernel_rfl) (by kernel_rfl) (fun _ _ _ h => h) (Or.inl ⟨by rfl, ?_⟩) (by assumption) ?_
                rotate_left
                · intro w_ hSw_; (try dsimp only at hSw_); go_simp; (try with_reducible rfl)
                try simp only [Act.put, List.setIfInBounds_toArray, List.set_cons_zero, List.set_cons_succ]
                refine take_op 6 (some 102) (v := ?_) rfl rfl (by kernel_rfl) (by kernel_rfl) (by kernel_rfl) (fun _ _ _ h => h) (Or.inl ⟨by rfl, ?_⟩) (by assumption) ?_
                rotate_left
                · intro w_ hSw_; (try dsimp only at hSw_); go_simp; (try with_reducible rfl)
                try simp only [Act.put, List.setIfInBounds_toArray, List.set_cons_zero, List.set_cons_succ]
                refine take_op 7 (some 103) (v := ?_) rfl rfl (by kernel_rfl) (by kernel_rfl) (by kernel_rfl) (fun _ _ _ h => h) (Or.inl ⟨by rfl, ?_⟩) (by assumption) ?_
                rotate_left
                · intro w_ hSw_; (try dsimp only at hSw_); go_simp; (try with_reducible rfl)
                try simp only [Act.put, List.setIfInBounds_toArray, List.set_cons_zero, List.set_cons_succ]
                refine take_op 8 (some 104) (v := ?_) rfl rfl (by kernel_rfl) (by kernel_rfl) (by kernel_rfl) (fun _ _ _ h => h) (Or.inl ⟨by rfl, ?_⟩) (by assumption) ?_
                rotate_left
                · intro w_ hSw_; (try dsimp only at hSw_); go_simp; (try with_reducible rfl)
                try simp only [Act.put, List.setIfInBounds_toArray, List.set_cons_zero, List.set_cons_succ]
                refine take_op 9 (some 105) (v := ?_) rfl rfl (by kernel_rfl) (by kernel_rfl) (by kernel_rfl) (fun _ _ _ h => h) (Or.inl ⟨by rfl, ?_⟩) (by assumption) ?_
                rotate_left
                · intro w_ hSw_; (try dsimp only at hSw_); go_simp; (try with_reducible rfl)
                try simp only [Act.put, List.setIfInBounds_toArray, List.set_cons_zero, List.set_cons_succ]
                refine take_op 10 (some 106) (v := ?_) rfl rfl (by kernel_rfl) (by kernel_rfl) (by kernel_rfl) (fun _ _ _ h => h) (Or.inl ⟨by rfl, ?_⟩) (by assumption) ?_
                rotate_left
                · intro w_ hSw_; (try dsimp only at hSw_); go_simp; (try with_reducible rfl)
                try simp only [Act.put, List.setIfInBounds_toArray, List.set_cons_zero, List.set_cons_succ]
                refine go_op 5 rfl (by kernel_rfl) (fun K_ hK_ => ?_)
                go_simp
                refine (arm_any b mb m nn pp _ HA0.out.disk).mono ?_
                rintro e w5 ⟨rfl, hd5, ho5⟩
                have HT5 := Lib.hid (HA0.out.ofDisk hd5 ho5)
                have hB5 := ho5.blk hB.drew (fun e => by rcases e with e | e <;> omega)
                clear hd5 ho5 HA0 HA
                refine hK_.out _ _ ?_ (fun hHeld_ => ?_)
                · exact ⟨hB5.cell 1, hB5.cell 2⟩
                refine go_op 11 rfl (by kernel_rfl) (fun K_ hK_ => ?_)
                go_simp
                refine (ref_arm rb sb m nn pp _ HT5.out.ref).mono ?_
                rintro e w6 ⟨rfl, hd6, ho6⟩
                have HT6 := Lib.hid (HT5.out.ofRef hd6 ho6)
                have hB6 := ho6.blk hB5 (fun e => by rcases e with e | e <;> omega)
                clear hd6 ho6 HT5
                refine hK_.out _ _ ?_ (fun hHeld_ => ?_)
                · exact ⟨hB6.cell 1, hB6.cell 2⟩
                refine take_op 12 (some 108) (v := ?_) rfl rfl (by kernel_rfl) (by kernel_rfl) (by kernel_rfl) (fun _ _ _ h => h) (Or.inl ⟨by rfl, ?_⟩) (by assumption) ?_
                rotate_left
                · intro w_ hSw_; (try dsimp only at hSw_); go_simp; (try with_reducible rfl)
                try simp only [Act.put, List.setIfInBounds_toArray, List.set_cons_zero, List.set_cons_succ]
                refine wpAnyH_done (by kernel_rfl) ?_ _
                generalize (m.arm nn pp).1 = mt at HT6 ⊢
                generalize (m.arm nn pp).2 = rt
                have HTt := HT6
                have t1 := (ref_cells HTt.out.ref).1
                have t5 := (ref_cells HTt.out.ref).2
                have HDt : Hid (DiskAt w6.drew b mb mt) := Lib.hid (HTt.out.disk.grown ((Below.refl _ _).drew))
                go_wp2_with fail
                refine wp_region_held_drew (S := fun w1 => w1.cell? ⟨rb, 1, none⟩ = some (.bool mt.dead) ∧ w1.cell? ⟨rb, 5, none⟩ = some (.int .i64 mt.writes)) (by kernel_rfl) ?_ (fun hHeld => ?_)
                · exact ⟨t1, t5⟩
                refine take_op 0 (some 115) (v := ?_) rfl rfl (by kernel_rfl) (by kernel_rfl) (by kernel_rfl) (fun _ _ _ h => h) (Or.inl ⟨by rfl, ?_⟩) (by assumption) ?_
                rotate_left
                · intro w_ hSw_; (try dsimp only at hSw_); go_simp; (try with_reducible rfl)
                try simp only [Act.put, List.setIfInBounds_toArray, List.set_cons_zero, List.set_cons_succ]
                refine take_op 2 (some 117) (v := ?_) rfl rfl (by kernel_rfl) (by kernel_rfl) (by kernel_rfl) (fun _ _ _ h => h) (Or.inl ⟨by rfl, ?_⟩) (by assumption) ?_
                rotate_left
                · intro w_ hSw_; (try dsimp only at hSw_); go_simp; (try with_reducible rfl)
                try simp only [Act.put, List.setIfInBounds_toArray, List.set_cons_zero, List.set_cons_succ]
                refine take_op 3 (some 118) (v := ?_) rfl rfl (by kernel_rfl) (by kernel_rfl) (by kernel_rfl) (fun _ _ _ h => h) (Or.inl ⟨by rfl, ?_⟩) (by assumption) ?_
                rotate_left
                · intro w_ hSw_; (try dsimp only at hSw_); go_simp; (try with_reducible rfl)
                try simp only [Act.put, List.setIfInBounds_toArray, List.set_cons_zero, List.set_cons_succ]
                refine take_op 4 (some 119) (v := ?_) rfl rfl (by kernel_rfl) (by kernel_rfl) (by kernel_rfl) (fun _ _ _ h => h) (Or.inl ⟨by rfl, ?_⟩) (by assumption) ?_
                rotate_left
                · intro w_ hSw_; (try dsimp only at hSw_); go_simp; (try with_reducible rfl)
                try simp only [Act.put, List.setIfInBounds_toArray, List.set_cons_zero, List.set_cons_succ]
                refine take_op 5 (some 120) (v := ?_) rfl rfl (by kernel_rfl) (by kernel_rfl) (by kernel_rfl) (fun _ _ _ h => h) (Or.inl ⟨by rfl, ?_⟩) (by assumption) ?_
                rotate_left
                · intro w_ hSw_; (try dsimp only at hSw_); go_simp; (try with_reducible rfl)
                try simp only [Act.put, List.setIfInBounds_toArray, List.set_cons_zero, List.set_cons_succ]
                refine go_op 1 rfl (by kernel_rfl) (fun K_ hK_ => ?_)
                go_simp
                refine (dead_any b mb mt _ HDt.out).mono ?_
                rintro e w8 ⟨rfl, hw8⟩
                have hw8 := hw8.symm
                subst hw8
                refine hK_.out _ _ ?_ (fun hHeld_ => ?_)
                · exact ⟨t1, t5⟩
                refine take_op 6 (some 121) (v := ?_) rfl rfl (by kernel_rfl) (by kernel_rfl) (by kernel_rfl) (fun _ _ _ h => h) (Or.inl ⟨by rfl, ?_⟩) (by assumption) ?_
                rotate_left
                · intro w_ hSw_; (try dsimp only at hSw_); go_simp; (try with_reducible rfl)
                try simp only [Act.put, List.setIfInBounds_toArray, List.set_cons_zero, List.set_cons_succ]
                refine take_op 7 (some 122) (v := ?_) rfl rfl (by kernel_rfl) (by kernel_rfl) (by kernel_rfl) (fun _ _ _ h => h) (Or.inl ⟨by rfl, ?_⟩) (by assumption) ?_
                rotate_left
                · intro w_ hSw_; (try dsimp only at hSw_); go_simp; (try with_reducible rfl)
                try simp only [Act.put, List.setIfInBounds_toArray, List.set_cons_zero, List.set_cons_succ]
                refine take_op 8 (some 123) (v := ?_) rfl rfl (by kernel_rfl) (by kernel_rfl) (by kernel_rfl) (fun _ _ _ h => h) (Or.inl ⟨by rfl, ?_⟩) (by assumption) ?_
                rotate_left
                · intro w_ hSw_; (try dsimp only at hSw_); go_simp; (try with_reducible rfl)
                try simp only [Act.put, List.setIfInBounds_toArray, List.set_cons_zero, List.set_cons_succ]
                refine take_op 10 (some 125) (v := ?_) rfl rfl (by kernel_rfl) (by kernel_rfl) (by kernel_rfl) (fun _ _ _ h => h) (Or.inl ⟨by rfl, ?_⟩) (by assumption) ?_
                rotate_left
                · intro w_ hSw_; (try dsimp only at hSw_); go_simp; (try with_reducible rfl)
                try simp only [Act.put, List.setIfInBounds_toArray, List.set_cons_zero, List.set_cons_succ]
                refine take_op 11 (some 126) (v := ?_) rfl rfl (by kernel_rfl) (by kernel_rfl) (by kernel_rfl) (fun _ _ _ h => h) (Or.inl ⟨by rfl, ?_⟩) (by assumption) ?_
                rotate_left
                · intro w_ hSw_; (try dsimp only at hSw_); go_simp; (try with_reducible rfl)
                try simp only [Act.put, List.setIfInBounds_toArray, List.set_cons_zero, List.set_cons_succ]
                refine take_op 12 (some 127) (v := ?_) rfl rfl (by kernel_rfl) (by kernel_rfl) (by kernel_rfl) (fun _ _ _ h => h) (Or.inl ⟨by rfl, ?_⟩) (by assumption) ?_
                rotate_left
                · intro w_ hSw_; (try dsimp only at hSw_); go_simp; (try with_reducible rfl)
                try simp only [Act.put, List.setIfInBounds_toArray, List.set_cons_zero, List.set_cons_succ]
                refine take_op 13 (some 128) (v := ?_) rfl rfl (by kernel_rfl) (by kernel_rfl) (by kernel_rfl) (fun _ _ _ h => h) (Or.inl ⟨by rfl, ?_⟩) (by assumption) ?_
                rotate_left
                · intro w_ hSw_; (try dsimp only at hSw_); go_simp; (try with_reducible rfl)
                try simp only [Act.put, List.setIfInBounds_toArray, List.set_cons_zero, List.set_cons_succ]
                refine go_op 9 rfl (by kernel_rfl) (fun K_ hK_ => ?_)
                go_simp
                refine (writes_any b mb mt _ HDt.out).mono ?_
                rintro e w9 ⟨rfl, hw9⟩
                have hw9 := hw9.symm
                subst hw9
                refine hK_.out _ _ ?_ (fun hHeld_ => ?_)
                · exact ⟨t1, t5⟩
                refine take_op 14 (some 129) (v := ?_) rfl rfl (by kernel_rfl) (by kernel_rfl) (by kernel_rfl) (fun _ _ _ h => h) (Or.inl ⟨by rfl, ?_⟩) (by assumption) ?_
                rotate_left
                · intro w_ hSw_; (try dsimp only at hSw_); go_simp; (try with_reducible rfl)
                try simp only [Act.put, List.setIfInBounds_toArray, List.set_cons_zero, List.set_cons_succ]
                refine take_op 15 (some 130) (v := ?_) rfl rfl (by kernel_rfl) (by kernel_rfl) (by kernel_rfl) (fun _ _ _ h => h) (Or.inl ⟨by rfl, ?_⟩) (by assumption) ?_
                rotate_left
                · intro w_ hSw_; (try dsimp only at hSw_); go_simp; (try with_reducible rfl)
                try simp only [Act.put, List.setIfInBounds_toArray, List.set_cons_zero, List.set_cons_succ]
                refine wpAnyH_done (by kernel_rfl) ?_ _
                go_wp2_with fail
                go_roundw
                case rel => exact ⟨i + 1, mt, by omega, by go_num, HTt.out.grow ((Below.refl _ _).drew)⟩
                case measure => simp [intOf]; omega
              · by_cases hk3 : k = 3
                · subst hk3
                  go_wp2_with fail
                  revert HA hB
                  generalize wr.alloc (.cells #[.int .i64 3, .int .i64 nn, .int .i64 pp, .string ss] 44) = wa
                  intro HA hB
                  refine (start_any b mb m wa HA.out.disk).mono ?_
                  rintro e w5 ⟨rfl, hd5, ho5⟩
                  have HT5 := Lib.hid (HA.out.ofDisk hd5 ho5)
                  clear hd5 ho5 HA hB
                  go_wp2_with fail
                  refine (ref_start rb sb m w5 HT5.out.ref).mono ?_
                  rintro e w6 ⟨rfl, hd6, ho6⟩
                  have HTt := Lib.hid (HT5.out.ofRef hd6 ho6)
                  clear hd6 ho6 HT5
                  generalize m.start = mt at HTt
                  have t1 := (ref_cells HTt.out.ref).1
                  have t5 := (ref_cells HTt.out.ref).2
                  have HDt : Hid (DiskAt w6.drew b mb mt) := Lib.hid (HTt.out.disk.grown ((Below.refl _ _).drew))
                  go_wp2_with fail
                  refine wp_region_held_drew (S := fun w1 => w1.cell? ⟨rb, 1, none⟩ = some (.bool mt.dead) ∧ w1.cell? ⟨rb, 5, none⟩ = some (.int .i64 mt.writes)) (by kernel_rfl) ?_ (fun hHeld => ?_)
                  · exact ⟨t1, t5⟩
                  refine take_op 0 (some 115) (v := ?_) rfl rfl (by kernel_rfl) (by kernel_rfl) (by kernel_rfl) (fun _ _ _ h => h) (Or.inl ⟨by rfl, ?_⟩) (by assumption) ?_
                  rotate_left
                  · intro w_ hSw_; (try dsimp only at hSw_); go_simp; (try with_reducible rfl)
                  try simp only [Act.put, List.setIfInBounds_toArray, List.set_cons_zero, List.set_cons_succ]
                  refine take_op 2 (some 117) (v := ?_) rfl rfl (by kernel_rfl) (by kernel_rfl) (by kernel_rfl) (fun _ _ _ h => h) (Or.inl ⟨by rfl, ?_⟩) (by assumption) ?_
                  rotate_left
                  · intro w_ hSw_; (try dsimp only at hSw_); go_simp; (try with_reducible rfl)
                  try simp only [Act.put, List.setIfInBounds_toArray, List.set_cons_zero, List.set_cons_succ]
                  refine take_op 3 (some 118) (v := ?_) rfl rfl (by kernel_rfl) (by kernel_rfl) (by kernel_rfl) (fun _ _ _ h => h) (Or.inl ⟨by rfl, ?_⟩) (by assumption) ?_
                  rotate_left
                  · intro w_ hSw_; (try dsimp only at hSw_); go_simp; (try with_reducible rfl)
                  try simp only [Act.put, List.setIfInBounds_toArray, List.set_cons_zero, List.set_cons_succ]
                  refine take_op 4 (some 119) (v := ?_) rfl rfl (by kernel_rfl) (by kernel_rfl) (by kernel_rfl) (fun _ _ _ h => h) (Or.inl ⟨by rfl, ?_⟩) (by assumption) ?_
                  rotate_left
                  · intro w_ hSw_; (try dsimp only at hSw_); go_simp; (try with_reducible rfl)
                  try simp only [Act.put, List.setIfInBounds_toArray, List.set_cons_zero, List.set_cons_succ]
                  refine take_op 5 (some 120) (v := ?_) rfl rfl (by kernel_rfl) (by kernel_rfl) (by kernel_rfl) (fun _ _ _ h => h) (Or.inl ⟨by rfl, ?_⟩) (by assumption) ?_
                  rotate_left
                  · intro w_ hSw_; (try dsimp only at hSw_); go_simp; (try with_reducible rfl)
                  try simp only [Act.put, List.setIfInBounds_toArray, List.set_cons_zero, List.set_cons_succ]
                  refine go_op 1 rfl (by kernel_rfl) (fun K_ hK_ => ?_)
                  go_simp
                  refine (dead_any b mb mt _ HDt.out).mono ?_
                  rintro e w8 ⟨rfl, hw8⟩
                  have hw8 := hw8.symm
                  subst hw8
                  refine hK_.out _ _ ?_ (fun hHeld_ => ?_)
                  · exact ⟨t1, t5⟩
                  refine take_op 6 (some 121) (v := ?_) rfl rfl (by kernel_rfl) (by kernel_rfl) (by kernel_rfl) (fun _ _ _ h => h) (Or.inl ⟨by rfl, ?_⟩) (by assumption) ?_
                  rotate_left
                  · intro w_ hSw_; (try dsimp only at hSw_); go_simp; (try with_reducible rfl)
                  try simp only [Act.put, List.setIfInBounds_toArray, List.set_cons_zero, List.set_cons_succ]
                  refine take_op 7 (some 122) (v := ?_) rfl rfl (by kernel_rfl) (by kernel_rfl) (by kernel_rfl) (fun _ _ _ h => h) (Or.inl ⟨by rfl, ?_⟩) (by assumption) ?_
                  rotate_left
                  · intro w_ hSw_; (try dsimp only at hSw_); go_simp; (try with_reducible rfl)
                  try simp only [Act.put, List.setIfInBounds_toArray, List.set_cons_zero, List.set_cons_succ]
                  refine take_op 8 (some 123) (v := ?_) rfl rfl (by kernel_rfl) (by kernel_rfl) (by kernel_rfl) (fun _ _ _ h => h) (Or.inl ⟨by rfl, ?_⟩) (by assumption) ?_
                  rotate_left
                  · intro w_ hSw_; (try dsimp only at hSw_); go_simp; (try with_reducible rfl)
                  try simp only [Act.put, List.setIfInBounds_toArray, List.set_cons_zero, List.set_cons_succ]
                  refine take_op 10 (some 125) (v := ?_) rfl rfl (by kernel_rfl) (by kernel_rfl) (by kernel_rfl) (fun _ _ _ h => h) (Or.inl ⟨by rfl, ?_⟩) (by assumption) ?_
                  rotate_left
                  · intro w_ hSw_; (try dsimp only at hSw_); go_simp; (try with_reducible rfl)
                  try simp only [Act.put, List.setIfInBounds_toArray, List.set_cons_zero, List.set_cons_succ]
                  refine take_op 11 (some 126) (v := ?_) rfl rfl (by kernel_rfl) (by kernel_rfl) (by kernel_rfl) (fun _ _ _ h => h) (Or.inl ⟨by rfl, ?_⟩) (by assumption) ?_
                  rotate_left
                  · intro w_ hSw_; (try dsimp only at hSw_); go_simp; (try with_reducible rfl)
                  try simp only [Act.put, List.setIfInBounds_toArray, List.set_cons_zero, List.set_cons_succ]
                  refine take_op 12 (some 127) (v := ?_) rfl rfl (by kernel_rfl) (by kernel_rfl) (by kernel_rfl) (fun _ _ _ h => h) (Or.inl ⟨by rfl, ?_⟩) (by assumption) ?_
                  rotate_left
                  · intro w_ hSw_; (try dsimp only at hSw_); go_simp; (try with_reducible rfl)
                  try simp only [Act.put, List.setIfInBounds_toArray, List.set_cons_zero, List.set_cons_succ]
                  refine take_op 13 (some 128) (v := ?_) rfl rfl (by kernel_rfl) (by kernel_rfl) (by kernel_rfl) (fun _ _ _ h => h) (Or.inl ⟨by rfl, ?_⟩) (by assumption) ?_
                  rotate_left
                  · intro w_ hSw_; (try dsimp only at hSw_); go_simp; (try with_reducible rfl)
                  try simp only [Act.put, List.setIfInBounds_toArray, List.set_cons_zero, List.set_cons_succ]
                  refine go_op 9 rfl (by kernel_rfl) (fun K_ hK_ => ?_)
                  go_simp
                  refine (writes_any b mb mt _ HDt.out).mono ?_
                  rintro e w9 ⟨rfl, hw9⟩
                  have hw9 := hw9.symm
                  subst hw9
                  refine hK_.out _ _ ?_ (fun hHeld_ => ?_)
                  · exact ⟨t1, t5⟩
                  refine take_op 14 (some 129) (v := ?_) rfl rfl (by kernel_rfl) (by kernel_rfl) (by kernel_rfl) (fun _ _ _ h => h) (Or.inl ⟨by rfl, ?_⟩) (by assumption) ?_
                  rotate_left
                  · intro w_ hSw_; (try dsimp only at hSw_); go_simp; (try with_reducible rfl)
                  try simp only [Act.put, List.setIfInBounds_toArray, List.set_cons_zero, List.set_cons_succ]
                  refine take_op 15 (some 130) (v := ?_) rfl rfl (by kernel_rfl) (by kernel_rfl) (by kernel_rfl) (fun _ _ _ h => h) (Or.inl ⟨by rfl, ?_⟩) (by assumption) ?_
                  rotate_left
                  · intro w_ hSw_; (try dsimp only at hSw_); go_simp; (try with_reducible rfl)
                  try simp only [Act.put, List.setIfInBounds_toArray, List.set_cons_zero, List.set_cons_succ]
                  refine wpAnyH_done (by kernel_rfl) ?_ _
                  go_wp2_with fail
                  go_roundw
                  case rel => exact ⟨i + 1, mt, by omega, by go_num, HTt.out.grow ((Below.refl _ _).drew)⟩
                  case measure => simp [intOf]; omega
                · go_wp2_with fail
                  revert HA hB
                  generalize wr.alloc (.cells #[.int .i64 k, .int .i64 nn, .int .i64 pp, .string ss] 44) = wt
                  intro HTt hB
                  have t1 := (ref_cells HTt.out.ref).1
                  have t5 := (ref_cells HTt.out.ref).2
                  have HDt : Hid (DiskAt wt.drew b mb m) := Lib.hid (HTt.out.disk.grown ((Below.refl _ _).drew))
                  go_wp2_with fail
                  refine wp_region_held_drew (S := fun w1 => w1.cell? ⟨rb, 1, none⟩ = some (.bool m.dead) ∧ w1.cell? ⟨rb, 5, none⟩ = some (.int .i64 m.writes)) (by kernel_rfl) ?_ (fun hHeld => ?_)
                  · exact ⟨t1, t5⟩
                  refine take_op 0 (some 115) (v := ?_) rfl rfl (by kernel_rfl) (by kernel_rfl) (by kernel_rfl) (fun _ _ _ h => h) (Or.inl ⟨by rfl, ?_⟩) (by assumption) ?_
                  rotate_left
                  · intro w_ hSw_; (try dsimp only at hSw_); go_simp; (try with_reducible rfl)
                  try simp only [Act.put, List.setIfInBounds_toArray, List.set_cons_zero, List.set_cons_succ]
                  refine take_op 2 (some 117) (v := ?_) rfl rfl (by kernel_rfl) (by kernel_rfl) (by kernel_rfl) (fun _ _ _ h => h) (Or.inl ⟨by rfl, ?_⟩) (by assumption) ?_
                  rotate_left
                  · intro w_ hSw_; (try dsimp only at hSw_); go_simp; (try with_reducible rfl)
                  try simp only [Act.put, List.setIfInBounds_toArray, List.set_cons_zero, List.set_cons_succ]
                  refine take_op 3 (some 118) (v := ?_) rfl rfl (by kernel_rfl) (by kernel_rfl) (by kernel_rfl) (fun _ _ _ h => h) (Or.inl ⟨by rfl, ?_⟩) (by assumption) ?_
                  rotate_left
                  · intro w_ hSw_; (try dsimp only at hSw_); go_simp; (try with_reducible rfl)
                  try simp only [Act.put, List.setIfInBounds_toArray, List.set_cons_zero, List.set_cons_succ]
                  refine take_op 4 (some 119) (v := ?_) rfl rfl (by kernel_rfl) (by kernel_rfl) (by kernel_rfl) (fun _ _ _ h => h) (Or.inl ⟨by rfl, ?_⟩) (by assumption) ?_
                  rotate_left
                  · intro w_ hSw_; (try dsimp only at hSw_); go_simp; (try with_reducible rfl)
                  try simp only [Act.put, List.setIfInBounds_toArray, List.set_cons_zero, List.set_cons_succ]
                  refine take_op 5 (some 120) (v := ?_) rfl rfl (by kernel_rfl) (by kernel_rfl) (by kernel_rfl) (fun _ _ _ h => h) (Or.inl ⟨by rfl, ?_⟩) (by assumption) ?_
                  rotate_left
                  · intro w_ hSw_; (try dsimp only at hSw_); go_simp; (try with_reducible rfl)
                  try simp only [Act.put, List.setIfInBounds_toArray, List.set_cons_zero, List.set_cons_succ]
                  refine go_op 1 rfl (by kernel_rfl) (fun K_ hK_ => ?_)
                  go_simp
                  refine (dead_any b mb m _ HDt.out).mono ?_
                  rintro e w8 ⟨rfl, hw8⟩
                  have hw8 := hw8.symm
                  subst hw8
                  refine hK_.out _ _ ?_ (fun hHeld_ => ?_)
                  · exact ⟨t1, t5⟩
                  refine take_op 6 (some 121) (v := ?_) rfl rfl (by kernel_rfl) (by kernel_rfl) (by kernel_rfl) (fun _ _ _ h => h) (Or.inl ⟨by rfl, ?_⟩) (by assumption) ?_
                  rotate_left
                  · intro w_ hSw_; (try dsimp only at hSw_); go_simp; (try with_reducible rfl)
                  try simp only [Act.put, List.setIfInBounds_toArray, List.set_cons_zero, List.set_cons_succ]
                  refine take_op 7 (some 122) (v := ?_) rfl rfl (by kernel_rfl) (by kernel_rfl) (by kernel_rfl) (fun _ _ _ h => h) (Or.inl ⟨by rfl, ?_⟩) (by assumption) ?_
                  rotate_left
                  · intro w_ hSw_; (try dsimp only at hSw_); go_simp; (try with_reducible rfl)
                  try simp only [Act.put, List.setIfInBounds_toArray, List.set_cons_zero, List.set_cons_succ]
                  refine take_op 8 (some 123) (v := ?_) rfl rfl (by kernel_rfl) (by kernel_rfl) (by kernel_rfl) (fun _ _ _ h => h) (Or.inl ⟨by rfl, ?_⟩) (by assumption) ?_
                  rotate_left
                  · intro w_ hSw_; (try dsimp only at hSw_); go_simp; (try with_reducible rfl)
                  try simp only [Act.put, List.setIfInBounds_toArray, List.set_cons_zero, List.set_cons_succ]
                  refine take_op 10 (some 125) (v := ?_) rfl rfl (by kernel_rfl) (by kernel_rfl) (by kernel_rfl) (fun _ _ _ h => h) (Or.inl ⟨by rfl, ?_⟩) (by assumption) ?_
                  rotate_left
                  · intro w_ hSw_; (try dsimp only at hSw_); go_simp; (try with_reducible rfl)
                  try simp only [Act.put, List.setIfInBounds_toArray, List.set_cons_zero, List.set_cons_succ]
                  refine take_op 11 (some 126) (v := ?_) rfl rfl (by kernel_rfl) (by kernel_rfl) (by kernel_rfl) (fun _ _ _ h => h) (Or.inl ⟨by rfl, ?_⟩) (by assumption) ?_
                  rotate_left
                  · intro w_ hSw_; (try dsimp only at hSw_); go_simp; (try with_reducible rfl)
                  try simp only [Act.put, List.setIfInBounds_toArray, List.set_cons_zero, List.set_cons_succ]
                  refine take_op 12 (some 127) (v := ?_) rfl rfl (by kernel_rfl) (by kernel_rfl) (by kernel_rfl) (fun _ _ _ h => h) (Or.inl ⟨by rfl, ?_⟩) (by assumption) ?_
                  rotate_left
                  · intro w_ hSw_; (try dsimp only at hSw_); go_simp; (try with_reducible rfl)
                  try simp only [Act.put, List.setIfInBounds_toArray, List.set_cons_zero, List.set_cons_succ]
                  refine take_op 13 (some 128) (v := ?_) rfl rfl (by kernel_rfl) (by kernel_rfl) (by kernel_rfl) (fun _ _ _ h => h) (Or.inl ⟨by rfl, ?_⟩) (by assumption) ?_
                  rotate_left
                  · intro w_ hSw_; (try dsimp only at hSw_); go_simp; (try with_reducible rfl)
                  try simp only [Act.put, List.setIfInBounds_toArray, List.set_cons_zero, List.set_cons_succ]
                  refine go_op 9 rfl (by kernel_rfl) (fun K_ hK_ => ?_)
                  go_simp
                  refine (writes_any b mb m _ HDt.out).mono ?_
                  rintro e w9 ⟨rfl, hw9⟩
                  have hw9 := hw9.symm
                  subst hw9
                  refine hK_.out _ _ ?_ (fun hHeld_ => ?_)
                  · exact ⟨t1, t5⟩
                  refine take_op 14 (some 129) (v := ?_) rfl rfl (by kernel_rfl) (by kernel_rfl) (by kernel_rfl) (fun _ _ _ h => h) (Or.inl ⟨by rfl, ?_⟩) (by assumption) ?_
                  rotate_left
                  · intro w_ hSw_; (try dsimp only at hSw_); go_simp; (try with_reducible rfl)
                  try simp only [Act.put, List.setIfInBounds_toArray, List.set_cons_zero, List.set_cons_succ]
                  refine take_op 15 (some 130) (v := ?_) rfl rfl (by kernel_rfl) (by kernel_rfl) (by kernel_rfl) (fun _ _ _ h => h) (Or.inl ⟨by rfl, ?_⟩) (by assumption) ?_
                  rotate_left
                  · intro w_ hSw_; (try dsimp only at hSw_); go_simp; (try with_reducible rfl)
                  try simp only [Act.put, List.setIfInBounds_toArray, List.set_cons_zero, List.set_cons_succ]
                  refine wpAnyH_done (by kernel_rfl) ?_ _
                  go_wp2_with fail
                  go_roundw
                  case rel => exact ⟨i + 1, m, by omega, by go_num, HTt.out.grow ((Below.refl _ _).drew)⟩
                  case measure => simp [intOf]; omega
        · go_wp2_with fail
          refine (start_any b mb m wr HT.out.disk).mono ?_
          rintro e w5 ⟨rfl, hd5, ho5⟩
          have HT5 := Lib.hid (HT.out.ofDisk hd5 ho5)
          clear hd5 ho5 HT
          go_wp2_with fail
          refine (ref_start rb sb m w5 HT5.out.ref).mono ?_
          rintro e w6 ⟨rfl, hd6, ho6⟩
          have HT6 := Lib.hid (HT5.out.ofRef hd6 ho6)
          clear hd6 ho6 HT5
          go_wp2_with fail
          refine (same_any b mb rb sb m.start w6 HT6.out.disk HT6.out.ref).mono ?_
          rintro e w7 ⟨rfl, hb7⟩
          have HT7 := Lib.hid (HT6.out.grow hb7)
          go_wp2_with fail
          refine (wakes11_any _).mono ?_
          rintro e w8 ⟨rfl, hb8⟩
          go_wp2_with fail
          go_ret
          exact ⟨rfl, (HT7.out.grow hb8).bel⟩
  · have HF : Hid (fairB l = false) := Lib.hid (by simpa using hf)
    clear hf
    go_enter Try.func7, Try.ntmps7
    go_wp2_with fail
    refine (fair_any _ _ _ hsl.out).mono ?_
    rintro e w1 ⟨rfl, hw1⟩
    have hw1 := hw1.symm
    subst hw1
    rw [HF.out]
    go_wp2_with fail
    refine (wakes11_any _).mono ?_
    rintro e w2 ⟨rfl, hb2⟩
    go_wp2_with fail
    go_ret
    exact ⟨rfl, hb2⟩
theorem own : ownKnob Try.prog.godebug = none := by kernel_rfl
theorem laidOut : laidOutB Try.prog = true := by kernel_rfl
set_option maxRecDepth 100000 in
theorem lifted (os : Os) (started : os.Started) (H : Type) (enc : TypeId × Value → H) :
    ReturnsInHanded {} Try.checked os 7 .any (Rows.diskPlaysSpec.pre6 enc Try.prog Try.f7 Rows.diskPlaysRow.domain false) (Rows.diskPlaysSpec.post enc Try.prog Try.f7 false true false false) := by
  refine returnsInHanded_of_change (C := Try.checked) own started (by kernel_rfl) Try.func7
    (ChangeSpec.witness6 (enc := enc) (C := Try.checked) false ⟨#[], #[.int .i64 0, .slice none 0 0], []⟩ 8 (by kernel_rfl) (by kernel_rfl) (by kernel_rfl) (by kernel_rfl)) ?_
  intro W base args ds gs before hval0 hW hcnd _
  have hval : ∀ (j : Nat) t v, Try.f7.params[j]? = some t → args[j]? = some v → Value.okWide Try.prog W .any base t v := hval0
  have hW' := hW
  obtain ⟨p, q, hA0, hV, rfl, hfz, hnd⟩ := hW
  have hA : DataW.TrodAll enc Try.prog W 0 (fun _ => true) true Try.f7.params.toList args.toList ds p := hA0
  rw [Try.params7] at hA hval
  obtain ⟨v0, vs0, d0, ds0, p0, q0, hargs, rfl, rfl, h0, r0⟩ := trodAll_cons hA
  obtain ⟨v1, vs1, d1, ds1, p1, q1, rfl, rfl, rfl, h1, r1⟩ := trodAll_cons r0
  obtain ⟨rfl, rfl, rfl⟩ := trodAll_nil r1
  obtain rfl : args = #[v0, v1] := by cases args; simp_all
  obtain ⟨rfl, rfl⟩ := trodVars_none hV
  have k0 := h0
  have lt0 : ∀ x ∈ p0, x.block < W.heap.size := by obtain ⟨m, hm⟩ := k0; exact DataW.trod_lt m _ _ _ hm
  have k1 := h1
  have lt1 : ∀ x ∈ p1, x.block < W.heap.size := by obtain ⟨m, hm⟩ := k1; exact DataW.trod_lt m _ _ _ hm
  obtain ⟨a0, rfl, e0, f0, w0⟩ := open_int Try.underlying3 (hval 0 3 v0 rfl rfl) h0
  obtain ⟨ad1, ln1, cp1, e1⟩ := okWide_slice Try.underlying34 (hval 1 34 v1 rfl rfl)
  obtain ⟨a1, w1⟩ : ∃ a, SlR kStep W a v1 := by
    obtain ⟨fuel, hf⟩ := h1
    obtain ⟨a, hx⟩ := kSteps.opn hf
    obtain ⟨v, hv, hs⟩ := hx
    rw [e1] at hv ⊢
    simp [Value.cells] at hv
    subst hv
    exact ⟨a, hs⟩
  clear hA0 hval0
  refine (walk W a0 w0 v1 a1 w1).mono fun e W' ⟨he, bel⟩ => ?_
  subst he
  exact ⟨_, rfl, _, _, _, [], _, [], hW', trodAll_mk1 (shut_bool Try.underlying4 _), (trodAll_cons_mk (Below.trod laidOut (by kernel_rfl) (of_decide_eq_true (by kernel_rfl)) k0 bel lt0) (trodAll_cons_mk (Below.trod laidOut (by kernel_rfl) (of_decide_eq_true (by kernel_rfl)) k1 bel lt1) trodAll_mk0)), rfl, bel.frame _, fun h => by cases h⟩
theorem over : Rows.diskPlaysRow.holds Try.pinned (OpenSpec.ofChange Rows.diskPlaysSpec) :=
  OpenClaim.holds_of_wide 7 Try.f7 rfl rfl rfl rfl rfl rfl rfl ⟨rfl, rfl, rfl, rfl, rfl⟩ rfl rfl rfl rfl rfl (by kernel_rfl) Try.func7 (by kernel_rfl)
    (of_decide_eq_true (by kernel_rfl)) (by unfold Func.isWrapper; first | (rw [if_pos (by decide +kernel)]; kernel_rfl) | (rw [if_neg (by decide +kernel)]; exact ⟨rfl, rfl⟩))
    (fun os started H enc _ => lifted os started H enc)
theorem proved : Rows.DiskPlaysSaid := over
#print axioms proved
end Go.Proofs.Ytcienfbkcfhfcaa.diskPlays
