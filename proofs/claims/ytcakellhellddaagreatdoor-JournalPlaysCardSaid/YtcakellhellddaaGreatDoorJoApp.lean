import Derived.Test.YtcakellhellddaaGreatDoorJoLaw
import Derived.Test.YtcakellhellddaaGreatDoorJoOpenPlain
import Derived.Test.YtcakellhellddaaGreatDoorJoAt
set_option linter.unusedSimpArgs false
set_option linter.unusedVariables false
namespace Go.Proofs.YtcakellhellddaaGreatDoor
open Go.RowKit
/-- A journal's blocks are not a disk's. -/
theorem JAt.apart {w : World} {jb b mb : Nat} {v : Value} {j : JM} {m : DM} (h : JAt w jb b v j) (hd : DiskAt w b mb m) : ¬ own2 b mb jb ∧ ∀ k, v.ownBlock = some k → ¬ own2 b mb k := by
  obtain ⟨hne, hwf, l, f, hb, hm, hs, hl⟩ := hd
  have hbb := hb.out
  obtain ⟨es, clock, hmm, _⟩ := hm
  have hj := h.blk.out
  refine ⟨?_, fun k hk => ?_⟩
  · rintro (e | e)
    · subst e
      rw [hj] at hbb
      injection hbb with hbb
      injection hbb with _ h1 _
      exact absurd h1 (by decide)
    · subst e
      rw [hj] at hmm
      injection hmm with hmm
      cases hmm
  · rcases h.row.2 with ⟨rfl, _⟩ | ⟨g, cap, cur, rfl, _, h3, _⟩
    · cases hk
    · have hg : g = k := by simpa [Value.ownBlock] using hk
      subst hg
      rintro (e | e)
      · subst e
        rw [h3] at hbb
        injection hbb with hbb
        injection hbb with _ h1 _
        exact absurd h1 (by decide)
      · subst e
        rw [h3] at hmm
        injection hmm with hmm
        cases hmm
/-- What Append and Save leave: the disk, the journal in its own block, and nothing else of what was there. -/
def OpPost (b mb jb : Nat) (v : Value) (r : DM × JM × Int) (w : World) (e : Ending) (w' : World) : Prop :=
  e = .returned (.int .i64 r.2.2) ∧ DiskAt w' b mb r.1 ∧ Only (fun k => own2 b mb k ∨ k = jb ∨ v.ownBlock = some k) w w' ∧
  ∃ v', JAt w' jb b v' r.2.1 ∧ (∀ k, v'.ownBlock = some k → v.ownBlock = some k ∨ w.heap.size ≤ k)
theorem JM.wf.more {j : JM} (h : j.wf) (s : ByteArray) (n : Nat) (h1 : j.next + 1 < 4294967296) (h2 : j.used + n ≤ 100000) (h3 : j.recs.length ≤ 999999) : JM.wf { j with recs := j.recs ++ [s], next := j.next + 1, used := j.used + n } :=
  ⟨h.area, h1, h2, by show (j.recs ++ [s]).length ≤ 1000000; rw [List.length_append, List.length_singleton]; omega⟩
set_option maxRecDepth 100000 in
set_option maxHeartbeats 4000000 in
theorem append_any (b mb jb : Nat) (m : DM) (v : Value) (j : JM) (s : ByteArray) (w : World) (hd : DiskAt w b mb m) (hj : JAt w jb b v j) (hrl : j.recs.length ≤ 999999) :
    Calls Tryz.prog 11 #[.pointer (some ⟨jb, 0, none⟩), .string s] w (OpPost b mb jb v (appendF m j s) w) := by
  obtain ⟨hap1, hap2⟩ := hj.apart hd
  have HD := Lib.hid hd
  have HJ := Lib.hid hj
  have hjl := jsize_le hd.wf
  have hus := hj.wf.used
  have hnx := hj.wf.next
  have HAP1 := Lib.hid hap1
  have HAP2 := Lib.hid hap2
  clear hd hj hap1 hap2
  go_enter Tryz.func11, Tryz.ntmps11
  go_wp2_with fail
  refine (jleft_any jb b mb v j m _ HJ.out HD.out).mono ?_
  rintro e w1 ⟨rfl, hb1⟩
  have HD1 := Lib.hid (HD.out.only (Only.of_below (S := fun _ => False) hb1) (fun h => h) (fun h => h))
  have HJ1 := Lib.hid (HJ.out.grown hb1)
  obtain ⟨room, hroom⟩ : ∃ room, room = (jsize m : Int) - (j.used : Int) := ⟨_, rfl⟩
  rw [← hroom]
  have HROOM := Lib.hid hroom
  have HB1 := Lib.hid hb1
  clear hb1 hroom
  go_wp2_with fail
  refine (jmay_any jb b v j s room _ HJ1.out).mono ?_
  rintro e w2 ⟨rfl, hw2⟩
  have hw2 := hw2.symm
  subst hw2
  obtain ⟨r, hr⟩ : ∃ r, r = j.may s room := ⟨_, rfl⟩
  rw [← hr]
  have HR := Lib.hid hr
  clear hr
  obtain ⟨n, er⟩ := r
  dsimp only
  by_cases he : er = 0
  · subst he
    obtain ⟨hd0, hs, hro, hn1, hn2⟩ := may_ok (j := j) (s := s) (room := room) (by rw [← HR.out])
    rw [← HR.out] at hn2
    dsimp only at hn2
    have E4 : Hid ((j.next : Int) + 1 = ((j.next + 1 : Nat) : Int)) := Lib.hid (by omega)
    have E5 : Hid (Go.RowKit.wrap64 ((j.used : Int) + (sizeN s.size : Int)) = ((j.used + sizeN s.size : Nat) : Int)) := Lib.hid (by unfold Go.RowKit.wrap64; have := HROOM.out; omega)
    have HU9 : Hid (j.used + sizeN s.size ≤ 100000) := Lib.hid (by have := HROOM.out; omega)
    have HN9 : Hid (j.next + 1 < 4294967296) := Lib.hid (by omega)
    obtain ⟨at_, hat⟩ : ∃ a, a = firstF m j.area + j.used := ⟨_, rfl⟩
    have hal : at_ ≤ 100000 := by
      rw [hat]; unfold firstF
      have := HJ1.out.wf.area
      have := HROOM.out
      rcases (by omega : j.area = 0 ∨ j.area = 1) with h | h <;> rw [h] <;> omega
    have hxa := HJ1.out.wf.area
    have c0 : w1.cell? ⟨jb, 0, none⟩ = some (.pointer (some ⟨b, 0, none⟩)) := HJ1.out.blk.cell 0
    have c1 : w1.cell? ⟨jb, 1, none⟩ = some (.int .i64 (j.area : Int)) := HJ1.out.blk.cell 1
    have c5 : w1.cell? ⟨jb, 5, none⟩ = some (.int .i64 (j.used : Int)) := HJ1.out.blk.cell 5
    have c4 : w1.cell? ⟨jb, 4, none⟩ = some (.int .u32 (j.next : Int)) := HJ1.out.blk.cell 4
    obtain ⟨q, hq⟩ : ∃ q, q = writeF m (at_ : Int) j.next s := ⟨_, rfl⟩
    have HQ := Lib.hid hq
    have HAT := Lib.hid hat
    have HD0 := Lib.hid hd0
    have ms : IntKind.i64.wrap ((firstF m j.area : Int) + (j.used : Int)) = (at_ : Int) := by rw [IntKind.wrap_i64, hat]; omega
    clear hq hat hd0
    go_wp2_with fail
    refine wp_region_held_drew (S := fun w' => w'.cell? ⟨jb, 0, none⟩ = some (.pointer (some ⟨b, 0, none⟩)) ∧ w'.cell? ⟨jb, 1, none⟩ = some (.int .i64 (j.area : Int)) ∧ w'.cell? ⟨jb, 5, none⟩ = some (.int .i64 (j.used : Int)) ∧ w'.cell? ⟨jb, 4, none⟩ = some (.int .u32 (j.next : Int))) (by kernel_rfl) ⟨c0, c1, c5, c4⟩ (fun hHeld => ?_)
    refine take_op 0 (some 21) (v := ?_) rfl rfl (by kernel_rfl) (by kernel_rfl) (by kernel_rfl) (fun _ _ _ h => h) (Or.inl ⟨by rfl, ?_⟩) (by assumption) ?_
    rotate_left
    · intro w_ hSw_; (try dsimp only at hSw_); go_simp; (try with_reducible rfl)
    try simp only [Act.put, List.setIfInBounds_toArray, List.set_cons_zero, List.set_cons_succ]
    refine take_op 1 (some 22) (v := ?_) rfl rfl (by kernel_rfl) (by kernel_rfl) (by kernel_rfl) (fun _ _ _ h => h) (Or.inl ⟨by rfl, ?_⟩) (by assumption) ?_
    rotate_left
    · intro w_ hSw_; (try dsimp only at hSw_); go_simp; (try with_reducible rfl)
    try simp only [Act.put, List.setIfInBounds_toArray, List.set_cons_zero, List.set_cons_succ]
    refine take_op 2 (some 23) (v := ?_) rfl rfl (by kernel_rfl) (by kernel_rfl) (by kernel_rfl) (fun _ _ _ h => h) (Or.inl ⟨by rfl, ?_⟩) (by assumption) ?_
    rotate_left
    · intro w_ hSw_; (try dsimp only at hSw_); go_simp; (try with_reducible rfl)
    try simp only [Act.put, List.setIfInBounds_toArray, List.set_cons_zero, List.set_cons_succ]
    refine take_op 3 (some 24) (v := ?_) rfl rfl (by kernel_rfl) (by kernel_rfl) (by kernel_rfl) (fun _ _ _ h => h) (Or.inl ⟨by rfl, ?_⟩) (by assumption) ?_
    rotate_left
    · intro w_ hSw_; (try dsimp only at hSw_); go_simp; (try with_reducible rfl)
    try simp only [Act.put, List.setIfInBounds_toArray, List.set_cons_zero, List.set_cons_succ]
    refine take_op 4 (some 25) (v := ?_) rfl rfl (by kernel_rfl) (by kernel_rfl) (by kernel_rfl) (fun _ _ _ h => h) (Or.inl ⟨by rfl, ?_⟩) (by assumption) ?_
    rotate_left
    · intro w_ hSw_; (try dsimp only at hSw_); go_simp; (try with_reducible rfl)
    try simp only [Act.put, List.setIfInBounds_toArray, List.set_cons_zero, List.set_cons_succ]
    refine take_op 5 (some 26) (v := ?_) rfl rfl (by kernel_rfl) (by kernel_rfl) (by kernel_rfl) (fun _ _ _ h => h) (Or.inl ⟨by rfl, ?_⟩) (by assumption) ?_
    rotate_left
    · intro w_ hSw_; (try dsimp only at hSw_); go_simp; (try with_reducible rfl)
    try simp only [Act.put, List.setIfInBounds_toArray, List.set_cons_zero, List.set_cons_succ]
    refine take_op 6 (some 27) (v := ?_) rfl rfl (by kernel_rfl) (by kernel_rfl) (by kernel_rfl) (fun _ _ _ h => h) (Or.inl ⟨by rfl, ?_⟩) (by assumption) ?_
    rotate_left
    · intro w_ hSw_; (try dsimp only at hSw_); go_simp; (try with_reducible rfl)
    try simp only [Act.put, List.setIfInBounds_toArray, List.set_cons_zero, List.set_cons_succ]
    refine take_op 7 (some 28) (v := ?_) rfl rfl (by kernel_rfl) (by kernel_rfl) (by kernel_rfl) (fun _ _ _ h => h) (Or.inl ⟨by rfl, ?_⟩) (by assumption) ?_
    rotate_left
    · intro w_ hSw_; (try dsimp only at hSw_); go_simp; (try with_reducible rfl)
    try simp only [Act.put, List.setIfInBounds_toArray, List.set_cons_zero, List.set_cons_succ]
    refine take_op 8 (some 29) (v := ?_) rfl rfl (by kernel_rfl) (by kernel_rfl) (by kernel_rfl) (fun _ _ _ h => h) (Or.inl ⟨by rfl, ?_⟩) (by assumption) ?_
    rotate_left
    · intro w_ hSw_; (try dsimp only at hSw_); go_simp; (try with_reducible rfl)
    try simp only [Act.put, List.setIfInBounds_toArray, List.set_cons_zero, List.set_cons_succ]
    refine take_op 9 (some 30) (v := ?_) rfl rfl (by kernel_rfl) (by kernel_rfl) (by kernel_rfl) (fun _ _ _ h => h) (Or.inl ⟨by rfl, ?_⟩) (by assumption) ?_
    rotate_left
    · intro w_ hSw_; (try dsimp only at hSw_); go_simp; (try with_reducible rfl)
    try simp only [Act.put, List.setIfInBounds_toArray, List.set_cons_zero, List.set_cons_succ]
    refine take_op 10 (some 31) (v := ?_) rfl rfl (by kernel_rfl) (by kernel_rfl) (by kernel_rfl) (fun _ _ _ h => h) (Or.inl ⟨by rfl, ?_⟩) (by assumption) ?_
    rotate_left
    · intro w_ hSw_; (try dsimp only at hSw_); go_simp; (try with_reducible rfl)
    try simp only [Act.put, List.setIfInBounds_toArray, List.set_cons_zero, List.set_cons_succ]
    refine take_op 11 (some 32) (v := ?_) rfl rfl (by kernel_rfl) (by kernel_rfl) (by kernel_rfl) (fun _ _ _ h => h) (Or.inl ⟨by rfl, ?_⟩) (by assumption) ?_
    rotate_left
    · intro w_ hSw_; (try dsimp only at hSw_); go_simp; (try with_reducible rfl)
    try simp only [Act.put, List.setIfInBounds_toArray, List.set_cons_zero, List.set_cons_succ]
    refine take_op 12 (some 33) (v := ?_) rfl rfl (by kernel_rfl) (by kernel_rfl) (by kernel_rfl) (fun _ _ _ h => h) (Or.inl ⟨by rfl, ?_⟩) (by assumption) ?_
    rotate_left
    · intro w_ hSw_; (try dsimp only at hSw_); go_simp; (try with_reducible rfl)
    try simp only [Act.put, List.setIfInBounds_toArray, List.set_cons_zero, List.set_cons_succ]
    refine take_op 14 (some 35) (v := ?_) rfl rfl (by kernel_rfl) (by kernel_rfl) (by kernel_rfl) (fun _ _ _ h => h) (Or.inl ⟨by rfl, ?_⟩) (by assumption) ?_
    rotate_left
    · intro w_ hSw_; (try dsimp only at hSw_); go_simp; (try with_reducible rfl)
    try simp only [Act.put, List.setIfInBounds_toArray, List.set_cons_zero, List.set_cons_succ]
    refine take_op 15 (some 36) (v := ?_) rfl rfl (by kernel_rfl) (by kernel_rfl) (by kernel_rfl) (fun _ _ _ h => h) (Or.inl ⟨by rfl, ?_⟩) (by assumption) ?_
    rotate_left
    · intro w_ hSw_; (try dsimp only at hSw_); go_simp; (try with_reducible rfl)
    try simp only [Act.put, List.setIfInBounds_toArray, List.set_cons_zero, List.set_cons_succ]
    refine take_op 16 (some 37) (v := ?_) rfl rfl (by kernel_rfl) (by kernel_rfl) (by kernel_rfl) (fun _ _ _ h => h) (Or.inl ⟨by rfl, ?_⟩) (by assumption) ?_
    rotate_left
    · intro w_ hSw_; (try dsimp only at hSw_); go_simp; (try with_reducible rfl)
    try simp only [Act.put, List.setIfInBounds_toArray, List.set_cons_zero, List.set_cons_succ]
    refine take_op 17 (some 38) (v := ?_) rfl rfl (by kernel_rfl) (by kernel_rfl) (by kernel_rfl) (fun _ _ _ h => h) (Or.inl ⟨by rfl, ?_⟩) (by assumption) ?_
    rotate_left
    · intro w_ hSw_; (try dsimp only at hSw_); go_simp; (try with_reducible rfl)
    try simp only [Act.put, List.setIfInBounds_toArray, List.set_cons_zero, List.set_cons_succ]
    refine take_op 19 (some 40) (v := ?_) rfl rfl (by kernel_rfl) (by kernel_rfl) (by kernel_rfl) (fun _ _ _ h => h) (Or.inl ⟨by rfl, ?_⟩) (by assumption) ?_
    rotate_left
    · intro w_ hSw_; (try dsimp only at hSw_); go_simp; (try with_reducible rfl)
    try simp only [Act.put, List.setIfInBounds_toArray, List.set_cons_zero, List.set_cons_succ]
    refine take_op 20 (some 41) (v := ?_) rfl rfl (by kernel_rfl) (by kernel_rfl) (by kernel_rfl) (fun _ _ _ h => h) (Or.inl ⟨by rfl, ?_⟩) (by assumption) ?_
    rotate_left
    · intro w_ hSw_; (try dsimp only at hSw_); go_simp; (try with_reducible rfl)
    try simp only [Act.put, List.setIfInBounds_toArray, List.set_cons_zero, List.set_cons_succ]
    refine take_op 21 (some 42) (v := ?_) rfl rfl (by kernel_rfl) (by kernel_rfl) (by kernel_rfl) (fun _ _ _ h => h) (Or.inl ⟨by rfl, ?_⟩) (by assumption) ?_
    rotate_left
    · intro w_ hSw_; (try dsimp only at hSw_); go_simp; (try with_reducible rfl)
    try simp only [Act.put, List.setIfInBounds_toArray, List.set_cons_zero, List.set_cons_succ]
    refine take_op 22 (some 43) (v := ?_) rfl rfl (by kernel_rfl) (by kernel_rfl) (by kernel_rfl) (fun _ _ _ h => h) (Or.inl ⟨by rfl, ?_⟩) (by assumption) ?_
    rotate_left
    · intro w_ hSw_; (try dsimp only at hSw_); go_simp; (try with_reducible rfl)
    try simp only [Act.put, List.setIfInBounds_toArray, List.set_cons_zero, List.set_cons_succ]
    refine take_op 23 (some 44) (v := ?_) rfl rfl (by kernel_rfl) (by kernel_rfl) (by kernel_rfl) (fun _ _ _ h => h) (Or.inl ⟨by rfl, ?_⟩) (by assumption) ?_
    rotate_left
    · intro w_ hSw_; (try dsimp only at hSw_); go_simp; (try with_reducible rfl)
    try simp only [Act.put, List.setIfInBounds_toArray, List.set_cons_zero, List.set_cons_succ]
    refine go_op 13 rfl (by kernel_rfl) (fun K_ hK_ => ?_)
    go_simp
    refine (first_any b mb m j.area hxa _ (HD1.out.only ((Only.refl (fun _ => False) _).drew) (fun h => h) (fun h => h))).mono ?_
    rintro e w2 ⟨rfl, hw2⟩
    have hw2 := hw2.symm
    subst hw2
    simp only [Act.put, List.setIfInBounds_toArray, List.set_cons_zero, List.set_cons_succ]
    refine hK_.out _ _ hHeld (fun hHeld_ => ?_)
    refine take_op 18 (some 39) (v := ?_) rfl rfl (by kernel_rfl) (by kernel_rfl) (by kernel_rfl) (fun _ _ _ h => h) (Or.inl ⟨by rfl, ?_⟩) (by assumption) ?_
    rotate_left
    · intro w_ hSw_; (try dsimp only at hSw_); go_simp; (try with_reducible rfl)
    try simp only [Act.put, List.setIfInBounds_toArray, List.set_cons_zero, List.set_cons_succ]
    refine go_op 24 rfl (by kernel_rfl) (fun K_ hK_ => ?_)
    go_simp
    refine (jwrite_any b mb m (at_ : Int) (by omega) j.next hnx s _ (HD1.out.only ((Only.refl (fun _ => False) _).drew) (fun h => h) (fun h => h))).mono ?_
    rintro e w3 ⟨rfl, hd3, ho3⟩
    have ho3 := (Only.refl (own2 b mb) w1).drew.trans ho3
    have hj3 := HJ1.out.only ho3 HAP1.out HAP2.out
    rw [← HQ.out] at hd3 ⊢
    have HD3 := Lib.hid hd3
    have HO3 := Lib.hid ho3
    have HJ3 := Lib.hid hj3
    clear hd3 ho3 hj3
    try simp only [Act.put, List.setIfInBounds_toArray, List.set_cons_zero, List.set_cons_succ]
    refine hK_.out _ _ ⟨HJ3.out.blk.cell 0, HJ3.out.blk.cell 1, HJ3.out.blk.cell 5, HJ3.out.blk.cell 4⟩ (fun hHeld_ => ?_)
    refine go_op 25 rfl (by kernel_rfl) (fun K_ hK_ => ?_)
    go_simp
    refine (jwrote_any jb b v j q.2 _ HJ3.out).mono ?_
    rintro e w4 ⟨rfl, hj4, ho4⟩
    try simp only [Act.put, List.setIfInBounds_toArray, List.set_cons_zero, List.set_cons_succ]
    refine hK_.out _ _ ⟨hj4.blk.cell 0, hj4.blk.cell 1, hj4.blk.cell 5, hj4.blk.cell 4⟩ (fun hHeld_ => ?_)
    refine take_op 26 (some 7) (v := ?_) rfl rfl (by kernel_rfl) (by kernel_rfl) (by kernel_rfl) (fun _ _ _ h => h) (Or.inl ⟨by rfl, ?_⟩) (by assumption) ?_
    rotate_left
    · intro w_ hSw_; (try dsimp only at hSw_); go_simp; (try with_reducible rfl)
    try simp only [Act.put, List.setIfInBounds_toArray, List.set_cons_zero, List.set_cons_succ]
    refine wpAnyH_done (by kernel_rfl) ?_ _
    have HB4 := Lib.hid (HB1.out)
    have HO4 := Lib.hid (((Only.of_below (S := fun k => own2 b mb k ∨ k = jb ∨ v.ownBlock = some k) HB1.out).trans (HO3.out.mono (T := fun k => own2 b mb k ∨ k = jb ∨ v.ownBlock = some k) (fun k _ h => .inl h))).trans (ho4.mono (T := fun k => own2 b mb k ∨ k = jb ∨ v.ownBlock = some k) (fun k _ h => .inr (.inl h))))
    have HD4 := Lib.hid (HD3.out.only ho4 (fun h => HAP1.out (.inl h.symm)) (fun h => HAP1.out (.inr h.symm)))
    clear ho4
    obtain ⟨m1, er1⟩ := q
    dsimp only at hj4 HD4 ⊢
    by_cases he1 : er1 = 0
    · subst he1
      have hj4 : JAt w4 jb b v j := by rw [show (j.dead || (0 : Int) != 0) = j.dead by simp] at hj4; exact hj4
      have hF : Hid (appendF m j s = (m1, { j with recs := j.recs ++ [s], next := j.next + 1, used := j.used + sizeN s.size }, 0)) := Lib.hid (by
        unfold appendF; rw [← HROOM.out, ← HR.out, ← HAT.out, ← HQ.out]; dsimp only; rw [if_neg (by simp), if_neg (by simp)])
      have HJ4 := Lib.hid hj4
      have c3 : w4.cell? ⟨jb, 3, none⟩ = some v := hj4.blk.cell 3
      have hjb4 := hj4.blk.lt
      have hvne := Lib.hid hj4.ne
      obtain ⟨w8, hw8⟩ : ∃ w8, w8 = w4.alloc (.cells #[.string s] 9) := ⟨_, rfl⟩
      have hb8 : Below w4.heap.size w4 w8 := by rw [hw8]; exact (Below.refl _ w4).alloc (Nat.le_refl _) _
      have c8 : w8.cell? ⟨w4.heap.size, 0, none⟩ = some (.string s) := by rw [hw8]; exact (Blk.new w4 #[.string s] 9).cell 0
      have hl8 : w4.heap.size < w8.heap.size := by rw [hw8]; exact (Blk.new w4 #[.string s] 9).lt
      have hsrc : Hid (0 < [s].length → ∃ b o, some (⟨w4.heap.size, 0, none⟩ : Addr) = some ⟨b, o, none⟩ ∧ b < w8.heap.size ∧ ∀ (j : Nat) y, [s][j]? = some y → w8.cell? ⟨b, o + j, none⟩ = some (.string y)) := Lib.hid (fun _ => ⟨_, 0, rfl, hl8, fun j y hj => by
        cases j with
        | zero => obtain rfl := Option.some.inj hj; exact c8
        | succ j => simp at hj⟩)
      have HJ8 := Lib.hid (hj4.grown hb8)
      have HB8 := Lib.hid hb8
      have hz8 : 0 ≤ w8.heap.size := Nat.zero_le _
      clear hb8 c8 hl8 hj4
      go_wp2_with (first | ((with_reducible refine at_appStrs 0 v j.recs.length j.recs [s] (some ⟨w4.heap.size, 0, none⟩) 1 1 rfl (hw8 ▸ HJ8.out.row) (hw8 ▸ hsrc.out) ?_ (hw8 ▸ hz8) ?_ ?_ ?_); omega; exact rfl; exact rfl; intro v9 w9 ho9 hg9 hv9; obtain ⟨g9, cap9, hv10⟩ := own_slice ho9; subst hv10; have hblk9 : Blk w9 jb (jRow b v j) 73 := (Only.of_grownBy (S := fun k => v.ownBlock = some k) hg9 (fun k hk => hk)).blk (hw8 ▸ HJ8.out.blk) (fun h => hvne.out jb h rfl); have f3 := hblk9.free 3; have f4 := hblk9.free 4; have f5 := hblk9.free 5; have d3 : w9.cell? ⟨jb, 3, none⟩ = some v := hblk9.cell 3; have d4 : w9.cell? ⟨jb, 4, none⟩ = some (.int .u32 (j.next : Int)) := hblk9.cell 4; have d5 : w9.cell? ⟨jb, 5, none⟩ = some (.int .i64 (j.used : Int)) := hblk9.cell 5) | fail)
      go_ret
      rw [hF.out, E4.out, E5.out]
      obtain ⟨wF, hwF⟩ : ∃ wF, wF = ((w9.setCell ⟨jb, 3, none⟩ (.slice (some ⟨g9, 0, none⟩) (j.recs.length + 1) cap9)).setCell ⟨jb, 4, none⟩ (.int .u32 ((j.next + 1 : Nat) : Int))).setCell ⟨jb, 5, none⟩ (.int .i64 ((j.used + sizeN s.size : Nat) : Int)) := ⟨_, rfl⟩
      have hfin : Only (fun k => k = jb) w9 wF := by
        rw [hwF]
        exact (((Only.refl (fun k => k = jb) w9).setCell (fun _ => rfl) _).setCell (fun _ => rfl) _).setCell (fun _ => rfl) _
      have hblkF : Blk wF jb (jRow b (.slice (some ⟨g9, 0, none⟩) (j.recs.length + 1) cap9) { j with recs := j.recs ++ [s], next := j.next + 1, used := j.used + sizeN s.size }) 73 := by
        rw [hwF]
        exact ((hblk9.setCell 3 (.slice (some ⟨g9, 0, none⟩) (j.recs.length + 1) cap9)).setCell 4 (.int .u32 ((j.next + 1 : Nat) : Int))).setCell 5 (.int .i64 ((j.used + sizeN s.size : Nat) : Int))
      rw [← hwF]
      rw [← hw8] at hg9 hv9
      have ho8 : Only (fun k => own2 b mb k ∨ k = jb ∨ v.ownBlock = some k) w w9 := (HO4.out.trans (Only.of_below HB8.out)).trans (Only.of_grownBy hg9 (fun k hk => .inr (.inr hk)))
      have hnw : ∀ k, (Value.slice (some ⟨g9, 0, none⟩) (j.recs.length + 1) cap9).ownBlock = some k → k ≠ jb ∧ ¬ own2 b mb k ∧ (v.ownBlock = some k ∨ w.heap.size ≤ k) := fun k hk => by
        rcases hv9 with h | h
        · rw [hk] at h
          exact ⟨hvne.out k h.symm, HAP2.out k h.symm, .inl h.symm⟩
        · rw [hk] at h
          have hk8 : k = w8.heap.size := Option.some.inj h
          have h1 := HB8.out.size
          have h2 := HO4.out.size
          obtain ⟨h3, h4⟩ := HD4.out.lt
          refine ⟨by omega, ?_, .inr (by omega)⟩
          rintro (h | h) <;> omega
      have hd9 : DiskAt w9 b mb m1 := (HD4.out.only (Only.of_below (S := fun _ => False) HB8.out) (fun h => h) (fun h => h)).only (Only.of_grownBy (S := fun k => v.ownBlock = some k) hg9 (fun k hk => hk)) (fun h => HAP2.out b h (.inl rfl)) (fun h => HAP2.out mb h (.inr rfl))
      have hwf := HJ3.out.wf
      refine ⟨rfl, hd9.only hfin (fun h => HAP1.out (.inl h.symm)) (fun h => HAP1.out (.inr h.symm)), ho8.trans (hfin.mono (fun k _ h => .inr (.inl h))), _, ⟨hwf.more s (sizeN s.size) HN9.out HU9.out hrl, hblkF, ?_⟩, fun k hk => (hnw k hk).2.2⟩
      · show wF.ownsRow 0 9 1 _ (j.recs ++ [s]).length ((j.recs ++ [s]).map Value.string)
        rw [List.length_append, List.length_singleton]
        exact owns_only ho9 hfin (fun k hk => (hnw k hk).1)
    · have g2 : (er1 != 0) = true := by simpa using he1
      have hF : Hid (appendF m j s = (m1, { j with dead := true }, er1)) := Lib.hid (by
        unfold appendF; rw [← HROOM.out, ← HR.out, ← HAT.out, ← HQ.out]; dsimp only; rw [if_neg (by simp), if_pos he1])
      rw [g2, Bool.or_true] at hj4
      have HJ4 := Lib.hid hj4
      clear hj4
      go_wp2_with fail
      go_ret
      rw [hF.out]
      exact ⟨rfl, HD4.out, HO4.out, _, HJ4.out, fun k hk => .inl hk⟩
  · have g1 : (er != 0) = true := by simpa using he
    have hF : Hid (appendF m j s = (m, j, er)) := Lib.hid (by unfold appendF; rw [← HROOM.out, ← HR.out]; dsimp only; rw [if_pos he])
    go_wp2_with fail
    go_ret
    rw [hF.out]
    exact ⟨rfl, HD1.out, Only.of_below HB1.out, _, HJ1.out, fun k hk => .inl hk⟩
end Go.Proofs.YtcakellhellddaaGreatDoor
namespace Go.Proofs.YtcakellhellddaaGreatDoor
open Go.RowKit
set_option maxRecDepth 100000 in
set_option maxHeartbeats 4000000 in
theorem save_any (b mb jb : Nat) (m : DM) (v : Value) (j : JM) (s : ByteArray) (w : World) (hd : DiskAt w b mb m) (hj : JAt w jb b v j) :
    Calls Tryz.prog 13 #[.pointer (some ⟨jb, 0, none⟩), .string s] w (OpPost b mb jb v (saveF m j s) w) := by
  obtain ⟨hap1, hap2⟩ := hj.apart hd
  have HD := Lib.hid hd
  have HJ := Lib.hid hj
  have hjl := jsize_le hd.wf
  have hus := hj.wf.used
  have hnx := hj.wf.next
  have HAP1 := Lib.hid hap1
  have HAP2 := Lib.hid hap2
  have c0 : w.cell? ⟨jb, 0, none⟩ = some (.pointer (some ⟨b, 0, none⟩)) := hj.blk.cell 0
  have c1 : w.cell? ⟨jb, 1, none⟩ = some (.int .i64 (j.area : Int)) := hj.blk.cell 1
  have c4 : w.cell? ⟨jb, 4, none⟩ = some (.int .u32 (j.next : Int)) := hj.blk.cell 4
  clear hd hj hap1 hap2
  go_enter Tryz.func13, Tryz.ntmps13
  go_wp2_with fail
  refine (jsize_any b mb m _ HD.out).mono ?_
  rintro e w1 ⟨rfl, hw1⟩
  have hw1 := hw1.symm
  subst hw1
  obtain ⟨room, hroom⟩ : ∃ room : Nat, room = jsize m := ⟨_, rfl⟩
  rw [← hroom]
  have HROOM := Lib.hid hroom
  clear hroom
  go_wp2_with fail
  refine (jmay_any jb b v j s (room : Int) _ HJ.out).mono ?_
  rintro e w2 ⟨rfl, hw2⟩
  have hw2 := hw2.symm
  subst hw2
  obtain ⟨r, hr⟩ : ∃ r, r = j.may s (room : Int) := ⟨_, rfl⟩
  rw [← hr]
  have HR := Lib.hid hr
  clear hr
  obtain ⟨n, er⟩ := r
  dsimp only
  by_cases he : er = 0
  · subst he
    obtain ⟨hd0, hs, hro, hn1, hn2⟩ := may_ok (j := j) (s := s) (room := (room : Int)) (by rw [← HR.out])
    rw [← HR.out] at hn2
    dsimp only at hn2
    have hxa := HJ.out.wf.area
    have E4 : Hid ((j.next : Int) + 1 = ((j.next + 1 : Nat) : Int)) := Lib.hid (by omega)
    have HU9 : Hid (sizeN s.size ≤ 100000) := Lib.hid (by have := HROOM.out; omega)
    have HN9 : Hid (j.next + 1 < 4294967296) := Lib.hid (by omega)
    obtain ⟨oa, hoa⟩ : ∃ a, a = 1 - j.area := ⟨_, rfl⟩
    have ms : IntKind.i64.wrap (1 - (j.area : Int)) = (oa : Int) := by rw [IntKind.wrap_i64, hoa]; omega
    have hoa1 : oa ≤ 1 := by omega
    obtain ⟨q, hq⟩ : ∃ q, q = beginF m oa j.next s := ⟨_, rfl⟩
    have HQ := Lib.hid hq
    have HOA := Lib.hid hoa
    have HD0 := Lib.hid hd0
    clear hq hoa hd0
    go_wp2_with fail
    refine wp_region_held_drew (S := fun w' => w'.cell? ⟨jb, 0, none⟩ = some (.pointer (some ⟨b, 0, none⟩)) ∧ w'.cell? ⟨jb, 1, none⟩ = some (.int .i64 (j.area : Int)) ∧ w'.cell? ⟨jb, 4, none⟩ = some (.int .u32 (j.next : Int))) (by kernel_rfl) ⟨c0, c1, c4⟩ (fun hHeld => ?_)
    refine take_op 0 (some 24) (v := ?_) rfl rfl (by kernel_rfl) (by kernel_rfl) (by kernel_rfl) (fun _ _ _ h => h) (Or.inl ⟨by rfl, ?_⟩) (by assumption) ?_
    rotate_left
    · intro w_ hSw_; (try dsimp only at hSw_); go_simp; (try with_reducible rfl)
    try simp only [Act.put, List.setIfInBounds_toArray, List.set_cons_zero, List.set_cons_succ]
    refine take_op 1 (some 25) (v := ?_) rfl rfl (by kernel_rfl) (by kernel_rfl) (by kernel_rfl) (fun _ _ _ h => h) (Or.inl ⟨by rfl, ?_⟩) (by assumption) ?_
    rotate_left
    · intro w_ hSw_; (try dsimp only at hSw_); go_simp; (try with_reducible rfl)
    try simp only [Act.put, List.setIfInBounds_toArray, List.set_cons_zero, List.set_cons_succ]
    refine take_op 2 (some 26) (v := ?_) rfl rfl (by kernel_rfl) (by kernel_rfl) (by kernel_rfl) (fun _ _ _ h => h) (Or.inl ⟨by rfl, ?_⟩) (by assumption) ?_
    rotate_left
    · intro w_ hSw_; (try dsimp only at hSw_); go_simp; (try with_reducible rfl)
    try simp only [Act.put, List.setIfInBounds_toArray, List.set_cons_zero, List.set_cons_succ]
    refine take_op 3 (some 27) (v := ?_) rfl rfl (by kernel_rfl) (by kernel_rfl) (by kernel_rfl) (fun _ _ _ h => h) (Or.inl ⟨by rfl, ?_⟩) (by assumption) ?_
    rotate_left
    · intro w_ hSw_; (try dsimp only at hSw_); go_simp; (try with_reducible rfl)
    try simp only [Act.put, List.setIfInBounds_toArray, List.set_cons_zero, List.set_cons_succ]
    refine take_op 4 (some 28) (v := ?_) rfl rfl (by kernel_rfl) (by kernel_rfl) (by kernel_rfl) (fun _ _ _ h => h) (Or.inl ⟨by rfl, ?_⟩) (by assumption) ?_
    rotate_left
    · intro w_ hSw_; (try dsimp only at hSw_); go_simp; (try with_reducible rfl)
    try simp only [Act.put, List.setIfInBounds_toArray, List.set_cons_zero, List.set_cons_succ]
    refine take_op 5 (some 29) (v := ?_) rfl rfl (by kernel_rfl) (by kernel_rfl) (by kernel_rfl) (fun _ _ _ h => h) (Or.inl ⟨by rfl, ?_⟩) (by assumption) ?_
    rotate_left
    · intro w_ hSw_; (try dsimp only at hSw_); go_simp; (try with_reducible rfl)
    try simp only [Act.put, List.setIfInBounds_toArray, List.set_cons_zero, List.set_cons_succ]
    refine take_op 6 (some 30) (v := ?_) rfl rfl (by kernel_rfl) (by kernel_rfl) (by kernel_rfl) (fun _ _ _ h => h) (Or.inl ⟨by rfl, ?_⟩) (by assumption) ?_
    rotate_left
    · intro w_ hSw_; (try dsimp only at hSw_); go_simp; (try with_reducible rfl)
    try simp only [Act.put, List.setIfInBounds_toArray, List.set_cons_zero, List.set_cons_succ]
    refine take_op 7 (some 31) (v := ?_) rfl rfl (by kernel_rfl) (by kernel_rfl) (by kernel_rfl) (fun _ _ _ h => h) (Or.inl ⟨by rfl, ?_⟩) (by assumption) ?_
    rotate_left
    · intro w_ hSw_; (try dsimp only at hSw_); go_simp; (try with_reducible rfl)
    try simp only [Act.put, List.setIfInBounds_toArray, List.set_cons_zero, List.set_cons_succ]
    refine take_op 8 (some 32) (v := ?_) rfl rfl (by kernel_rfl) (by kernel_rfl) (by kernel_rfl) (fun _ _ _ h => h) (Or.inl ⟨by rfl, ?_⟩) (by assumption) ?_
    rotate_left
    · intro w_ hSw_; (try dsimp only at hSw_); go_simp; (try with_reducible rfl)
    try simp only [Act.put, List.setIfInBounds_toArray, List.set_cons_zero, List.set_cons_succ]
    refine take_op 9 (some 33) (v := ?_) rfl rfl (by kernel_rfl) (by kernel_rfl) (by kernel_rfl) (fun _ _ _ h => h) (Or.inl ⟨by rfl, ?_⟩) (by assumption) ?_
    rotate_left
    · intro w_ hSw_; (try dsimp only at hSw_); go_simp; (try with_reducible rfl)
    try simp only [Act.put, List.setIfInBounds_toArray, List.set_cons_zero, List.set_cons_succ]
    refine take_op 10 (some 34) (v := ?_) rfl rfl (by kernel_rfl) (by kernel_rfl) (by kernel_rfl) (fun _ _ _ h => h) (Or.inl ⟨by rfl, ?_⟩) (by assumption) ?_
    rotate_left
    · intro w_ hSw_; (try dsimp only at hSw_); go_simp; (try with_reducible rfl)
    try simp only [Act.put, List.setIfInBounds_toArray, List.set_cons_zero, List.set_cons_succ]
    refine take_op 11 (some 35) (v := ?_) rfl rfl (by kernel_rfl) (by kernel_rfl) (by kernel_rfl) (fun _ _ _ h => h) (Or.inl ⟨by rfl, ?_⟩) (by assumption) ?_
    rotate_left
    · intro w_ hSw_; (try dsimp only at hSw_); go_simp; (try with_reducible rfl)
    try simp only [Act.put, List.setIfInBounds_toArray, List.set_cons_zero, List.set_cons_succ]
    refine take_op 12 (some 36) (v := ?_) rfl rfl (by kernel_rfl) (by kernel_rfl) (by kernel_rfl) (fun _ _ _ h => h) (Or.inl ⟨by rfl, ?_⟩) (by assumption) ?_
    rotate_left
    · intro w_ hSw_; (try dsimp only at hSw_); go_simp; (try with_reducible rfl)
    try simp only [Act.put, List.setIfInBounds_toArray, List.set_cons_zero, List.set_cons_succ]
    refine take_op 13 (some 37) (v := ?_) rfl rfl (by kernel_rfl) (by kernel_rfl) (by kernel_rfl) (fun _ _ _ h => h) (Or.inl ⟨by rfl, ?_⟩) (by assumption) ?_
    rotate_left
    · intro w_ hSw_; (try dsimp only at hSw_); go_simp; (try with_reducible rfl)
    try simp only [Act.put, List.setIfInBounds_toArray, List.set_cons_zero, List.set_cons_succ]
    refine take_op 14 (some 38) (v := ?_) rfl rfl (by kernel_rfl) (by kernel_rfl) (by kernel_rfl) (fun _ _ _ h => h) (Or.inl ⟨by rfl, ?_⟩) (by assumption) ?_
    rotate_left
    · intro w_ hSw_; (try dsimp only at hSw_); go_simp; (try with_reducible rfl)
    try simp only [Act.put, List.setIfInBounds_toArray, List.set_cons_zero, List.set_cons_succ]
    refine go_op 15 rfl (by kernel_rfl) (fun K_ hK_ => ?_)
    go_simp
    refine (begin_any b mb m oa hoa1 j.next hnx s _ (HD.out.only ((Only.refl (fun _ => False) _).drew) (fun h => h) (fun h => h))).mono ?_
    rintro e w3 ⟨rfl, hd3, ho3⟩
    have ho3 := (Only.refl (own2 b mb) w).drew.trans ho3
    have hj3 := HJ.out.only ho3 HAP1.out HAP2.out
    rw [← HQ.out] at hd3 ⊢
    have HD3 := Lib.hid hd3
    have HO3 := Lib.hid ho3
    have HJ3 := Lib.hid hj3
    clear hd3 ho3 hj3
    try simp only [Act.put, List.setIfInBounds_toArray, List.set_cons_zero, List.set_cons_succ]
    refine hK_.out _ _ ⟨HJ3.out.blk.cell 0, HJ3.out.blk.cell 1, HJ3.out.blk.cell 4⟩ (fun hHeld_ => ?_)
    refine go_op 16 rfl (by kernel_rfl) (fun K_ hK_ => ?_)
    go_simp
    refine (jwrote_any jb b v j q.2 _ HJ3.out).mono ?_
    rintro e w4 ⟨rfl, hj4, ho4⟩
    try simp only [Act.put, List.setIfInBounds_toArray, List.set_cons_zero, List.set_cons_succ]
    refine hK_.out _ _ ⟨hj4.blk.cell 0, hj4.blk.cell 1, hj4.blk.cell 4⟩ (fun hHeld_ => ?_)
    refine take_op 17 (some 7) (v := ?_) rfl rfl (by kernel_rfl) (by kernel_rfl) (by kernel_rfl) (fun _ _ _ h => h) (Or.inl ⟨by rfl, ?_⟩) (by assumption) ?_
    rotate_left
    · intro w_ hSw_; (try dsimp only at hSw_); go_simp; (try with_reducible rfl)
    try simp only [Act.put, List.setIfInBounds_toArray, List.set_cons_zero, List.set_cons_succ]
    refine wpAnyH_done (by kernel_rfl) ?_ _
    have HO4 := Lib.hid ((HO3.out.mono (T := fun k => own2 b mb k ∨ k = jb ∨ v.ownBlock = some k) (fun k _ h => .inl h)).trans (ho4.mono (T := fun k => own2 b mb k ∨ k = jb ∨ v.ownBlock = some k) (fun k _ h => .inr (.inl h))))
    have HD4 := Lib.hid (HD3.out.only ho4 (fun h => HAP1.out (.inl h.symm)) (fun h => HAP1.out (.inr h.symm)))
    clear ho4
    obtain ⟨m1, er1⟩ := q
    dsimp only at hj4 HD4 ⊢
    by_cases he1 : er1 = 0
    · subst he1
      have hj4 : JAt w4 jb b v j := by rw [show (j.dead || (0 : Int) != 0) = j.dead by simp] at hj4; exact hj4
      have hF : Hid (saveF m j s = (m1, ⟨oa, s, [], j.next + 1, sizeN s.size, j.dead⟩, 0)) := Lib.hid (by
        unfold saveF; rw [← HROOM.out, ← HR.out, ← HOA.out, ← HQ.out]; dsimp only; rw [if_neg (by simp), if_neg (by simp)])
      have d1 : w4.cell? ⟨jb, 1, none⟩ = some (.int .i64 (j.area : Int)) := hj4.blk.cell 1
      have d2 : w4.cell? ⟨jb, 2, none⟩ = some (.string j.base) := hj4.blk.cell 2
      have d3 : w4.cell? ⟨jb, 3, none⟩ = some v := hj4.blk.cell 3
      have d4 : w4.cell? ⟨jb, 4, none⟩ = some (.int .u32 (j.next : Int)) := hj4.blk.cell 4
      have d5 : w4.cell? ⟨jb, 5, none⟩ = some (.int .i64 (j.used : Int)) := hj4.blk.cell 5
      have f1 := hj4.blk.free 1
      have f2 := hj4.blk.free 2
      have f3 := hj4.blk.free 3
      have f4 := hj4.blk.free 4
      have f5 := hj4.blk.free 5
      have HJ4 := Lib.hid hj4
      clear hj4
      go_wp2_with fail
      go_ret
      rw [hF.out, E4.out]
      obtain ⟨wF, hwF⟩ : ∃ wF, wF = ((((w4.setCell ⟨jb, 1, none⟩ (.int .i64 (oa : Int))).setCell ⟨jb, 2, none⟩ (.string s)).setCell ⟨jb, 3, none⟩ (.slice none 0 0)).setCell ⟨jb, 5, none⟩ (.int .i64 (sizeN s.size : Int))).setCell ⟨jb, 4, none⟩ (.int .u32 ((j.next + 1 : Nat) : Int)) := ⟨_, rfl⟩
      have hfin : Only (fun k => k = jb) w4 wF := by
        rw [hwF]
        exact (((((Only.refl (fun k => k = jb) w4).setCell (fun _ => rfl) _).setCell (fun _ => rfl) _).setCell (fun _ => rfl) _).setCell (fun _ => rfl) _).setCell (fun _ => rfl) _
      have hblkF : Blk wF jb (jRow b (.slice none 0 0) ⟨oa, s, [], j.next + 1, sizeN s.size, j.dead⟩) 73 := by
        rw [hwF]
        exact ((((HJ4.out.blk.setCell 1 (.int .i64 (oa : Int))).setCell 2 (.string s)).setCell 3 (.slice none 0 0)).setCell 5 (.int .i64 (sizeN s.size : Int))).setCell 4 (.int .u32 ((j.next + 1 : Nat) : Int))
      rw [← hwF]
      refine ⟨rfl, HD4.out.only hfin (fun h => HAP1.out (.inl h.symm)) (fun h => HAP1.out (.inr h.symm)), HO4.out.trans (hfin.mono (fun k _ h => .inr (.inl h))), _, ⟨⟨hoa1, HN9.out, HU9.out, Nat.zero_le _⟩, hblkF, ⟨rfl, .inl ⟨rfl, rfl⟩⟩⟩, fun k hk => by cases hk⟩
    · have g2 : (er1 != 0) = true := by simpa using he1
      have hF : Hid (saveF m j s = (m1, { j with dead := true }, er1)) := Lib.hid (by
        unfold saveF; rw [← HROOM.out, ← HR.out, ← HOA.out, ← HQ.out]; dsimp only; rw [if_neg (by simp), if_pos he1])
      rw [g2, Bool.or_true] at hj4
      have HJ4 := Lib.hid hj4
      clear hj4
      go_wp2_with fail
      go_ret
      rw [hF.out]
      exact ⟨rfl, HD4.out, HO4.out, _, HJ4.out, fun k hk => .inl hk⟩
  · have g1 : (er != 0) = true := by simpa using he
    have hF : Hid (saveF m j s = (m, j, er)) := Lib.hid (by unfold saveF; rw [← HROOM.out, ← HR.out]; dsimp only; rw [if_pos he])
    go_wp2_with fail
    go_ret
    rw [hF.out]
    exact ⟨rfl, HD.out, Only.refl _ _, _, HJ.out, fun k hk => .inl hk⟩
end Go.Proofs.YtcakellhellddaaGreatDoor
namespace Go.Proofs.YtcakellhellddaaGreatDoor
open Go.RowKit
set_option maxRecDepth 100000 in
set_option maxHeartbeats 2000000 in
/-- slices.Clone of texts. -/
theorem slClone_any (v : Value) (l : List ByteArray) (hl : l.length ≤ 1000000) (w : World) (h : w.ownsRow 0 9 1 v l.length (l.map Value.string)) :
    Calls Tryz.prog 57 #[v] w fun e w' => ∃ v', e = .returned v' ∧ StrsAt w' v' l ∧ w'.ownsRow w.heap.size 9 1 v' l.length (l.map Value.string) ∧ Below w.heap.size w w' := by
  have hS := StrsAt.own h rfl (by omega)
  obtain ⟨n, hn⟩ : ∃ n, n = l.length := ⟨_, rfl⟩
  have q24 : ∀ (w : World) (a : Option Addr) (n c n' c' : Nat), (binOp .eql 50 (.slice a n c) (.slice none n' c')).run Tryz.prog w = .ok (.bool a.isNone) w := fun w a n c n' c' => Lib.run_eql_slice_nil w _ _ a n c n' c' sl_str
  rcases h.2 with ⟨hv, hl0⟩ | ⟨g, cap, cur, hv, _, _, _⟩
  · subst hv
    have hl0 : l = [] := List.length_eq_zero_iff.1 hl0
    subst hl0
    go_enter Tryz.func57, Tryz.ntmps57
    go_wp2_with fail
    go_ret
    exact ⟨_, rfl, StrsAt.nil _, ⟨rfl, .inl ⟨rfl, rfl⟩⟩, Below.refl _ _⟩
  · rw [← hn] at hv
    subst hv
    have HS := Lib.hid hS
    have HN := Lib.hid hn
    obtain ⟨w5, hw5⟩ : ∃ w5, w5 = w.alloc (.cells #[] 9) := ⟨_, rfl⟩
    have hb5 : Below w.heap.size w w5 := by rw [hw5]; exact (Below.refl _ w).alloc (Nat.le_refl _) _
    have hS5 := hS.below hb5
    obtain ⟨a, c, he, _, hsrc⟩ := hS5.out
    rw [← hn] at he
    injection he with he1 _ he2
    subst he1 he2
    have HSRC := Lib.hid hsrc
    have hnew : w5.ownsRow w.heap.size 9 1 (.slice (some ⟨w.heap.size, 0, none⟩) 0 0) 0 (([] : List ByteArray).map Value.string) := by
      rw [hw5]
      exact ⟨rfl, .inr ⟨w.heap.size, 0, #[], rfl, Nat.le_refl _, (Blk.new w #[] 9).out, by simp, by simp, rfl, rfl⟩⟩
    have HNEW := Lib.hid hnew
    have HB5 := Lib.hid hb5
    have hsz5 : w.heap.size ≤ w5.heap.size := hb5.size
    have hn9 : n ≤ 1000000 := by omega
    clear hS hsrc hn h hS5 hnew hb5
    go_enter Tryz.func57, Tryz.ntmps57
    go_wp2_with (first | ((with_reducible refine at_appStrs w.heap.size (.slice (some ⟨w.heap.size, 0, none⟩) 0 0) 0 [] l (some ⟨g, 0, none⟩) n cap HN.out (hw5 ▸ HNEW.out) (hw5 ▸ HSRC.out) ?_ (hw5 ▸ hsz5) ?_ ?_ ?_); omega; exact rfl; exact rfl; intro v6 w6 ho6 hg6 hv6) | fail)
    go_ret
    rw [← hw5] at hg6
    rw [Nat.zero_add, HN.out, List.nil_append] at ho6
    exact ⟨_, rfl, StrsAt.own ho6 rfl (by omega), ho6, HB5.out.trans (below_grown hg6 HB5.out.size (fun k hk => by simp [Value.ownBlock] at hk; omega))⟩
theorem jrecords_any (jb b : Nat) (v : Value) (j : JM) (w : World) (h : JAt w jb b v j) :
    Calls Tryz.prog 29 #[.pointer (some ⟨jb, 0, none⟩)] w fun e w' => ∃ v', e = .returned v' ∧ StrsAt w' v' j.recs ∧ w'.ownsRow w.heap.size 9 1 v' j.recs.length (j.recs.map Value.string) ∧ Below w.heap.size w w' := by
  have c3 : w.cell? ⟨jb, 3, none⟩ = some v := h.blk.cell 3
  have hl := h.wf.recs
  have hr := h.row
  clear h
  go_enter Tryz.func29, Tryz.ntmps29
  go_wp2_with fail
  refine (slClone_any v j.recs hl _ hr).mono ?_
  rintro e w1 ⟨v', rfl, h1, h2, h3⟩
  go_wp2_with fail
  go_ret
  exact ⟨_, rfl, h1, h2, h3⟩
end Go.Proofs.YtcakellhellddaaGreatDoor
