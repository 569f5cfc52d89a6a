import Derived.Test.YtcakellhellddaaGreatDoorJoOpen
set_option linter.unusedSimpArgs false
set_option linter.unusedVariables false
namespace Go.Proofs.YtcakellhellddaaGreatDoor
open Go.RowKit
def numJ (j : JM) : Nat := j.next - j.recs.length
def betterF : Option JM → Option JM → Option JM
  | best, none => best
  | none, some j => some j
  | some a, some j => if numJ a < numJ j then some j else some a
def bestF (m : DM) : Nat → Option JM
  | 0 => none
  | i + 1 => betterF (bestF m i) (beginsF m i).1
def topF : Option JM → Nat
  | none => 0
  | some j => numJ j
/-- A journal that may be, at a value. -/
def BestAt (n b : Nat) (wr : World) (x : Value) : Option JM → Prop
  | none => x = .pointer none
  | some j => ∃ jb v, x = .pointer (some ⟨jb, 0, none⟩) ∧ JAt wr jb b v j ∧ n ≤ jb ∧ (∀ k, v.ownBlock = some k → n ≤ k)
theorem BestAt.grown {n b : Nat} {w w' : World} {x : Value} : ∀ {o : Option JM}, BestAt n b w x o → Below w.heap.size w w' → BestAt n b w' x o
  | none, h, _ => h
  | some _, ⟨jb, v, h1, h2, h3, h4⟩, hb => ⟨jb, v, h1, h2.grown hb, h3, h4⟩
theorem recsF_le (l : List ByteArray) : ∀ (k next used : Nat) (acc : List ByteArray), acc.length < next → (recsF l k next used acc).1.length < (recsF l k next used acc).2.1
  | 0, _, _, _, h => h
  | k + 1, next, used, acc, h => by
    unfold recsF
    split
    · exact recsF_le l k _ _ _ (by simp; exact h)
    · exact h
theorem begins_pos {m : DM} {area : Nat} {b : JM} {e : Int} (h : beginsF m area = (some b, e)) : b.recs.length < b.next := by
  unfold beginsF at h
  split at h
  · cases h
  split at h
  · cases h
  split at h
  · cases h
  injection h with h _
  injection h with h
  subst h
  exact recsF_le _ _ _ _ _ (Nat.succ_pos _)
theorem begins_err {m : DM} {area : Nat} (h : m.dead = false) : (beginsF m area).2 = 0 := by
  unfold beginsF
  rw [h, if_neg (by simp)]
  split
  · rfl
  · split <;> rfl
theorem best_pick {m : DM} (hz : jsize m ≠ 0) (hd : m.dead = false) : openF m = match bestF m 2 with
    | none => (none, 11)
    | some j => (some j, 0) := by
  unfold openF
  rw [if_neg hz, hd, if_neg (by simp)]
  show pickF (beginsF m 0).1 (beginsF m 1).1 = match betterF (betterF none (beginsF m 0).1) (beginsF m 1).1 with
    | none => (none, 11)
    | some j => (some j, 0)
  cases (beginsF m 0).1 with
  | none => cases (beginsF m 1).1 <;> rfl
  | some a =>
    cases (beginsF m 1).1 with
    | none => rfl
    | some c =>
      unfold pickF betterF numJ
      dsimp only [betterF]
      by_cases h : a.next - a.recs.length < c.next - c.recs.length
      · rw [if_pos h, if_pos h]
      · rw [if_neg h, if_neg h]
theorem topF_zero {m : DM} : ∀ {i : Nat} {j : JM}, bestF m i = some j → 0 < numJ j
  | 0, _, h => by cases h
  | i + 1, j, h => by
    have h : betterF (bestF m i) (beginsF m i).1 = some j := h
    cases hq : (beginsF m i).1 with
    | none => rw [hq] at h; exact topF_zero (i := i) (by simpa [betterF] using h)
    | some c =>
      have hc := begins_pos (m := m) (area := i) (b := c) (e := (beginsF m i).2) (by rw [← hq])
      have hc2 : 0 < numJ c := by unfold numJ; omega
      rw [hq] at h
      cases hb : bestF m i with
      | none => rw [hb] at h; obtain rfl := Option.some.inj h; exact hc2
      | some a =>
        rw [hb] at h
        have h : (if numJ a < numJ c then some c else some a) = some j := h
        split at h
        · obtain rfl := Option.some.inj h; exact hc2
        · obtain rfl := Option.some.inj h; exact topF_zero hb
theorem better_eq (o : Option JM) (j : JM) (h : 0 < numJ j) : betterF o (some j) = if topF o < numJ j then some j else o := by
  cases o with
  | none => show some j = if 0 < numJ j then some j else none; rw [if_pos h]
  | some a => rfl
set_option maxRecDepth 100000 in
set_option maxHeartbeats 4000000 in
theorem jopen_any (b mb : Nat) (m : DM) (w : World) (h : DiskAt w b mb m) :
    Calls Tryz.prog 19 #[.pointer (some ⟨b, 0, none⟩)] w (BeginsPost b mb (openF m) w) := by
  have HD := Lib.hid h
  clear h
  go_enter Tryz.func19, Tryz.ntmps19
  go_wp2_with fail
  refine (jsize_any b mb m _ HD.out).mono ?_
  rintro e w1 ⟨rfl, hw1⟩
  have hw1 := hw1.symm
  subst hw1
  by_cases hz : jsize m = 0
  · have hF : Hid (openF m = (none, 1)) := Lib.hid (by unfold openF; rw [if_pos hz])
    rw [hz]
    go_wp2_with fail
    go_ret2
    rw [hF.out]
    exact ⟨Below.refl _ _, rfl⟩
  · have HZ := Lib.hid hz
    obtain ⟨z, hze⟩ : ∃ z, z = jsize m := ⟨_, rfl⟩
    rw [← hze] at hz ⊢
    clear hze
    have hz1 : ¬ (z : Int) = 0 := by omega
    have hzb : ((z : Int) == 0) = false := by simpa using hz1
    go_wp2_with fail
    go_loopw [4, 5, 13] (fun x y z wr => ∃ i : Nat, i ≤ 2 ∧ z = .int .i64 i ∧ y = .int .u32 (topF (bestF m i) : Int) ∧ (0 < i → m.dead = false) ∧ BestAt w.heap.size b wr x (bestF m i) ∧ Below w.heap.size w wr ∧ topF (bestF m i) < 4294967296) (fun _ _ z _ => 2 - (intOf z).toNat)
    case atStart => exact ⟨0, by omega, rfl, rfl, fun h => by omega, rfl, Below.refl _ _, (show (0 : Nat) < 4294967296 by decide)⟩
    case round =>
      obtain ⟨i, hi, rfl, rfl, hdd, hbest, hB, htop⟩ := hrel
      have HBEST := Lib.hid hbest
      have HB := Lib.hid hB
      have HDD := Lib.hid hdd
      have HDR := Lib.hid (HD.out.only (Only.of_below (S := fun _ => False) hB) (fun h => h) (fun h => h))
      obtain ⟨o, ho⟩ : ∃ o, o = bestF m i := ⟨_, rfl⟩
      rw [← ho] at HBEST htop ⊢
      have HO := Lib.hid ho
      obtain ⟨t, ht⟩ : ∃ t, t = topF o := ⟨_, rfl⟩
      rw [← ht] at htop ⊢
      have HT := Lib.hid ht
      clear hbest hB hdd ho ht
      by_cases hlt : i < 2
      · have g1 : (i : Int) < 2 := by omega
        go_wp2_with fail
        refine (begins_any b mb m i (by omega) HZ.out _ HDR.out).mono ?_
        rintro e w2 ⟨hb2, hp⟩
        have HB2 := Lib.hid (HB.out.trans (hb2.mono HB.out.size))
        have HBEST2 := Lib.hid (HBEST.out.grown hb2)
        cases hde : m.dead
        · have her := begins_err (m := m) (area := i) hde
          have HDE := Lib.hid hde
          obtain ⟨q, hq⟩ : ∃ q, q = beginsF m i := ⟨_, rfl⟩
          rw [← hq] at hp her
          have HQ := Lib.hid hq
          clear hq hde hb2
          obtain ⟨bo, er⟩ := q
          dsimp only at hp her
          subst her
          have hstep : Hid (bestF m (i + 1) = betterF o bo) := Lib.hid (by show betterF (bestF m i) (beginsF m i).1 = _; rw [← HO.out, ← HQ.out])
          cases bo with
          | none =>
            have hp : e = .returned (.tuple #[.pointer none, .int .i64 0]) := hp
            subst hp
            go_wp2_with fail
            go_roundw
            case rel => exact ⟨i + 1, by omega, by go_num, by rw [hstep.out]; show _ = Value.int .u32 (topF o : Int); rw [← HT.out], fun _ => HDE.out, by rw [hstep.out]; exact HBEST2.out, HB2.out, by rw [hstep.out]; show topF o < _; rw [← HT.out]; exact htop⟩
            case measure => simp [intOf]; omega
          | some j =>
            obtain ⟨jb, v, rfl, hj, hf1, hf2⟩ := hp
            have hpos := begins_pos (m := m) (area := i) (b := j) (e := 0) HQ.out.symm
            have hnj : 0 < numJ j := by unfold numJ; omega
            have hstep2 : Hid (bestF m (i + 1) = if t < numJ j then some j else o) := Lib.hid (by rw [hstep.out, better_eq o j hnj, HT.out])
            have hwf := hj.wf
            have hl1 := hwf.recs
            have hn1 := hwf.next
            obtain ⟨av, cv, hv, _, _⟩ := (StrsAt.own hj.row rfl (by omega)).out
            subst hv
            have hf1' : w.heap.size ≤ jb := Nat.le_trans HB.out.size hf1
            have hf2' : ∀ k, (Value.slice av j.recs.length cv).ownBlock = some k → w.heap.size ≤ k := fun k hk => Nat.le_trans HB.out.size (hf2 k hk)
            have c3 : w2.cell? ⟨jb, 3, none⟩ = some (.slice av j.recs.length cv) := hj.blk.cell 3
            have c4 : w2.cell? ⟨jb, 4, none⟩ = some (.int .u32 (j.next : Int)) := hj.blk.cell 4
            have HJ := Lib.hid hj
            obtain ⟨nj, hnj2⟩ : ∃ nj, nj = numJ j := ⟨_, rfl⟩
            have mw1 : IntKind.u32.wrap (j.recs.length : Int) = (j.recs.length : Int) := by rw [IntKind.wrap_u32]; omega
            have mw2 : IntKind.u32.wrap ((j.next : Int) - (j.recs.length : Int)) = (nj : Int) := by rw [IntKind.wrap_u32, hnj2]; unfold numJ; omega
            rw [← hnj2] at hstep2
            have hnb : nj < 4294967296 := by rw [hnj2]; unfold numJ; omega
            have HNJ := Lib.hid hnj2
            clear hj hnj hpos hnj2
            go_wp2_with fail
            refine wp_region_held_drew (S := fun w' => w'.cell? ⟨jb, 3, none⟩ = some (.slice av j.recs.length cv) ∧ w'.cell? ⟨jb, 4, none⟩ = some (.int .u32 (j.next : Int))) (by kernel_rfl) ⟨c3, c4⟩ (fun hHeld => ?_)
            refine take_op 0 (some 27) (v := ?_) rfl rfl (by kernel_rfl) (by kernel_rfl) (by kernel_rfl) (fun _ _ _ h => h) (Or.inl ⟨by rfl, ?_⟩) (by assumption) ?_
            rotate_left
            · intro w_ hSw_; (try dsimp only at hSw_); go_simp; (try with_reducible rfl)
            try simp only [Act.put, List.setIfInBounds_toArray, List.set_cons_zero, List.set_cons_succ]
            refine take_op 1 (some 28) (v := ?_) rfl rfl (by kernel_rfl) (by kernel_rfl) (by kernel_rfl) (fun _ _ _ h => h) (Or.inl ⟨by rfl, ?_⟩) (by assumption) ?_
            rotate_left
            · intro w_ hSw_; (try dsimp only at hSw_); go_simp; (try with_reducible rfl)
            try simp only [Act.put, List.setIfInBounds_toArray, List.set_cons_zero, List.set_cons_succ]
            refine take_op 2 (some 29) (v := ?_) rfl rfl (by kernel_rfl) (by kernel_rfl) (by kernel_rfl) (fun _ _ _ h => h) (Or.inl ⟨by rfl, ?_⟩) (by assumption) ?_
            rotate_left
            · intro w_ hSw_; (try dsimp only at hSw_); go_simp; (try with_reducible rfl)
            try simp only [Act.put, List.setIfInBounds_toArray, List.set_cons_zero, List.set_cons_succ]
            refine take_op 3 (some 30) (v := ?_) rfl rfl (by kernel_rfl) (by kernel_rfl) (by kernel_rfl) (fun _ _ _ h => h) (Or.inl ⟨by rfl, ?_⟩) (by assumption) ?_
            rotate_left
            · intro w_ hSw_; (try dsimp only at hSw_); go_simp; (try with_reducible rfl)
            try simp only [Act.put, List.setIfInBounds_toArray, List.set_cons_zero, List.set_cons_succ]
            refine take_op 4 (some 31) (v := ?_) rfl rfl (by kernel_rfl) (by kernel_rfl) (by kernel_rfl) (fun _ _ _ h => h) (Or.inl ⟨by rfl, ?_⟩) (by assumption) ?_
            rotate_left
            · intro w_ hSw_; (try dsimp only at hSw_); go_simp; (try with_reducible rfl)
            try simp only [Act.put, List.setIfInBounds_toArray, List.set_cons_zero, List.set_cons_succ]
            refine take_op 5 (some 32) (v := ?_) rfl rfl (by kernel_rfl) (by kernel_rfl) (by kernel_rfl) (fun _ _ _ h => h) (Or.inl ⟨by rfl, ?_⟩) (by assumption) ?_
            rotate_left
            · intro w_ hSw_; (try dsimp only at hSw_); go_simp; (try with_reducible rfl)
            try simp only [Act.put, List.setIfInBounds_toArray, List.set_cons_zero, List.set_cons_succ]
            refine take_op 6 (some 33) (v := ?_) rfl rfl (by kernel_rfl) (by kernel_rfl) (by kernel_rfl) (fun _ _ _ h => h) (Or.inl ⟨by rfl, ?_⟩) (by assumption) ?_
            rotate_left
            · intro w_ hSw_; (try dsimp only at hSw_); go_simp; (try with_reducible rfl)
            try simp only [Act.put, List.setIfInBounds_toArray, List.set_cons_zero, List.set_cons_succ]
            refine take_op 7 (some 34) (v := ?_) rfl rfl (by kernel_rfl) (by kernel_rfl) (by kernel_rfl) (fun _ _ _ h => h) (Or.inl ⟨by rfl, ?_⟩) (by assumption) ?_
            rotate_left
            · intro w_ hSw_; (try dsimp only at hSw_); go_simp; (try with_reducible rfl)
            try simp only [Act.put, List.setIfInBounds_toArray, List.set_cons_zero, List.set_cons_succ]
            refine take_op 8 (some 35) (v := ?_) rfl rfl (by kernel_rfl) (by kernel_rfl) (by kernel_rfl) (fun _ _ _ h => h) (Or.inl ⟨by rfl, ?_⟩) (by assumption) ?_
            rotate_left
            · intro w_ hSw_; (try dsimp only at hSw_); go_simp; (try with_reducible rfl)
            try simp only [Act.put, List.setIfInBounds_toArray, List.set_cons_zero, List.set_cons_succ]
            refine take_op 9 (some 36) (v := ?_) rfl rfl (by kernel_rfl) (by kernel_rfl) (by kernel_rfl) (fun _ _ _ h => h) (Or.inl ⟨by rfl, ?_⟩) (by assumption) ?_
            rotate_left
            · intro w_ hSw_; (try dsimp only at hSw_); go_simp; (try with_reducible rfl)
            try simp only [Act.put, List.setIfInBounds_toArray, List.set_cons_zero, List.set_cons_succ]
            refine take_op 10 (some 37) (v := ?_) rfl rfl (by kernel_rfl) (by kernel_rfl) (by kernel_rfl) (fun _ _ _ h => h) (Or.inl ⟨by rfl, ?_⟩) (by assumption) ?_
            rotate_left
            · intro w_ hSw_; (try dsimp only at hSw_); go_simp; (try with_reducible rfl)
            try simp only [Act.put, List.setIfInBounds_toArray, List.set_cons_zero, List.set_cons_succ]
            refine take_op 11 (some 9) (v := ?_) rfl rfl (by kernel_rfl) (by kernel_rfl) (by kernel_rfl) (fun _ _ _ h => h) (Or.inl ⟨by rfl, ?_⟩) (by assumption) ?_
            rotate_left
            · intro w_ hSw_; (try dsimp only at hSw_); go_simp; (try with_reducible rfl)
            try simp only [Act.put, List.setIfInBounds_toArray, List.set_cons_zero, List.set_cons_succ]
            refine wpAnyH_done (by kernel_rfl) ?_ _
            by_cases hgt : t < nj
            · have g2 : (t : Int) < (nj : Int) := by omega
              go_wp2_with fail
              go_roundw
              case rel => exact ⟨i + 1, by omega, by go_num, by rw [hstep2.out, if_pos hgt]; show _ = Value.int .u32 (numJ j : Int); rw [← HNJ.out], fun _ => HDE.out, by rw [hstep2.out, if_pos hgt]; exact ⟨jb, _, rfl, HJ.out.grown (Below.refl _ w2).drew, hf1', hf2'⟩, HB2.out.drew, by rw [hstep2.out, if_pos hgt]; show numJ j < _; rw [← HNJ.out]; exact hnb⟩
              case measure => simp [intOf]; omega
            · have g2 : ¬ (t : Int) < (nj : Int) := by omega
              go_wp2_with fail
              go_roundw
              case rel => exact ⟨i + 1, by omega, by go_num, by rw [hstep2.out, if_neg hgt]; rw [← HT.out], fun _ => HDE.out, by rw [hstep2.out, if_neg hgt]; exact HBEST2.out.grown (Below.refl _ w2).drew, HB2.out.drew, by rw [hstep2.out, if_neg hgt]; rw [← HT.out]; exact htop⟩
              case measure => simp [intOf]; omega
        · have hq : beginsF m i = (none, 74) := by unfold beginsF; rw [hde]; rfl
          rw [hq] at hp
          have hp : e = .returned (.tuple #[.pointer none, .int .i64 74]) := hp
          subst hp
          have hF : Hid (openF m = (none, 74)) := Lib.hid (by unfold openF; rw [if_neg HZ.out, hde]; rfl)
          clear hde hq hb2
          go_wp2_with fail
          go_ret2
          rw [hF.out]
          exact ⟨HB2.out, rfl⟩
      · have hi2 : i = 2 := by omega
        subst hi2
        have hpk := best_pick HZ.out (HDD.out (by omega))
        rw [← HO.out] at hpk
        cases o with
        | none =>
          have hF : Hid (openF m = (none, 11)) := Lib.hid hpk
          have hx := HBEST.out
          clear hpk
          subst hx
          go_wp2_with fail
          go_ret2
          rw [hF.out]
          exact ⟨HB.out, rfl⟩
        | some j =>
          have hF : Hid (openF m = (some j, 0)) := Lib.hid hpk
          obtain ⟨jb, v, hx, h2, h3, h4⟩ := HBEST.out
          have H2 := Lib.hid h2
          clear hpk h2
          subst hx
          go_wp2_with fail
          go_ret2
          rw [hF.out]
          exact ⟨HB.out, jb, v, rfl, H2.out, h3, h4⟩
end Go.Proofs.YtcakellhellddaaGreatDoor
