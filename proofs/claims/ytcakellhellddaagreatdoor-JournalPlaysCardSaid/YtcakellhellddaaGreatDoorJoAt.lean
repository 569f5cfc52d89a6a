import Derived.Test.YtcakellhellddaaGreatDoorJoBegin
import Derived.Test.YtcakellhellddaaGreatDoorApp
set_option linter.unusedSimpArgs false
set_option linter.unusedVariables false
namespace Go.Proofs.YtcakellhellddaaGreatDoor
open Go.RowKit
/-- A journal as data. -/
structure JM where
  area : Nat
  base : ByteArray
  recs : List ByteArray
  next : Nat
  used : Nat
  dead : Bool
structure JM.wf (j : JM) : Prop where
  area : j.area ≤ 1
  next : j.next < 4294967296
  used : j.used ≤ 100000
  recs : j.recs.length ≤ 1000000
def jRow (b : Nat) (v : Value) (j : JM) : Array Value := #[.pointer (some ⟨b, 0, none⟩), .int .i64 (j.area : Int), .string j.base, v, .int .u32 (j.next : Int), .int .i64 (j.used : Int), .bool j.dead]
/-- A journal in memory: its block jb, its records' slice v, over the disk at b. -/
structure JAt (w : World) (jb b : Nat) (v : Value) (j : JM) : Prop where
  wf : j.wf
  blk : Blk w jb (jRow b v j) 73
  row : w.ownsRow 0 9 1 v j.recs.length (j.recs.map Value.string)
theorem JAt.grown {w w' : World} {jb b : Nat} {v : Value} {j : JM} (h : JAt w jb b v j) (hb : Below w.heap.size w w') : JAt w' jb b v j :=
  ⟨h.wf, h.blk.below hb h.blk.lt, owns_below h.row hb (Nat.le_refl _)⟩
theorem owns_only {w w' : World} {S : Nat → Prop} {base : Nat} {e : TypeId} {s n : Nat} {v : Value} {xs : List Value} (h : w.ownsRow base e s v n xs) (ho : Only S w w') (hS : ∀ k, v.ownBlock = some k → ¬ S k) : w'.ownsRow base e s v n xs := by
  refine ⟨h.1, ?_⟩
  rcases h.2 with h0 | ⟨g, cap, cur, rfl, h2, h3, h4⟩
  · exact .inl h0
  · exact .inr ⟨g, cap, cur, rfl, h2, (ho.block g (lt_of_block h3) (hS g rfl)).trans h3, h4⟩
theorem JAt.only {S : Nat → Prop} {w w' : World} {jb b : Nat} {v : Value} {j : JM} (h : JAt w jb b v j) (ho : Only S w w') (h1 : ¬ S jb) (h2 : ∀ k, v.ownBlock = some k → ¬ S k) : JAt w' jb b v j :=
  ⟨h.wf, ho.blk h.blk h1, owns_only h.row ho h2⟩
theorem jbase_any (jb b : Nat) (v : Value) (j : JM) (w : World) (h : JAt w jb b v j) : Calls Tryz.prog 27 #[.pointer (some ⟨jb, 0, none⟩)] w fun e w' => e = .returned (.string j.base) ∧ w' = w := by
  have c2 : w.cell? ⟨jb, 2, none⟩ = some (.string j.base) := h.blk.cell 2
  go_enter Tryz.func27, Tryz.ntmps27
  go_wp2
  go_ret
  exact ⟨rfl, rfl⟩
theorem jnext_any (jb b : Nat) (v : Value) (j : JM) (w : World) (h : JAt w jb b v j) : Calls Tryz.prog 30 #[.pointer (some ⟨jb, 0, none⟩)] w fun e w' => e = .returned (.int .u32 (j.next : Int)) ∧ w' = w := by
  have c4 : w.cell? ⟨jb, 4, none⟩ = some (.int .u32 (j.next : Int)) := h.blk.cell 4
  go_enter Tryz.func30, Tryz.ntmps30
  go_wp2
  go_ret
  exact ⟨rfl, rfl⟩
theorem jleft_any (jb b mb : Nat) (v : Value) (j : JM) (m : DM) (w : World) (h : JAt w jb b v j) (hd : DiskAt w b mb m) : Calls Tryz.prog 31 #[.pointer (some ⟨jb, 0, none⟩)] w fun e w' => e = .returned (.int .i64 ((jsize m : Int) - (j.used : Int))) ∧ Below w.heap.size w w' := by
  have c0 : w.cell? ⟨jb, 0, none⟩ = some (.pointer (some ⟨b, 0, none⟩)) := h.blk.cell 0
  have c5 : w.cell? ⟨jb, 5, none⟩ = some (.int .i64 (j.used : Int)) := h.blk.cell 5
  have hu := h.wf.used
  have hjl := jsize_le hd.wf
  have HD := Lib.hid hd
  obtain ⟨z, hz⟩ : ∃ z, z = jsize m := ⟨_, rfl⟩
  rw [← hz] at hjl ⊢
  have HZ := Lib.hid hz
  clear h hd hz
  go_enter Tryz.func31, Tryz.ntmps31
  go_wp2_with fail
  refine wp_region_held_drew (S := fun w' => w'.cell? ⟨jb, 0, none⟩ = some (.pointer (some ⟨b, 0, none⟩)) ∧ w'.cell? ⟨jb, 5, none⟩ = some (.int .i64 (j.used : Int))) (by kernel_rfl) ⟨c0, c5⟩ (fun hHeld => ?_)
  refine take_op 0 (some 5) (v := ?_) rfl rfl (by kernel_rfl) (by kernel_rfl) (by kernel_rfl) (fun _ _ _ h => h) (Or.inl ⟨by rfl, ?_⟩) (by assumption) ?_
  rotate_left
  · intro w_ hSw_; (try dsimp only at hSw_); go_simp; (try with_reducible rfl)
  try simp only [Act.put, List.setIfInBounds_toArray, List.set_cons_zero, List.set_cons_succ]
  refine take_op 1 (some 6) (v := ?_) rfl rfl (by kernel_rfl) (by kernel_rfl) (by kernel_rfl) (fun _ _ _ h => h) (Or.inl ⟨by rfl, ?_⟩) (by assumption) ?_
  rotate_left
  · intro w_ hSw_; (try dsimp only at hSw_); go_simp; (try with_reducible rfl)
  try simp only [Act.put, List.setIfInBounds_toArray, List.set_cons_zero, List.set_cons_succ]
  refine take_op 2 (some 7) (v := ?_) rfl rfl (by kernel_rfl) (by kernel_rfl) (by kernel_rfl) (fun _ _ _ h => h) (Or.inl ⟨by rfl, ?_⟩) (by assumption) ?_
  rotate_left
  · intro w_ hSw_; (try dsimp only at hSw_); go_simp; (try with_reducible rfl)
  try simp only [Act.put, List.setIfInBounds_toArray, List.set_cons_zero, List.set_cons_succ]
  refine take_op 3 (some 8) (v := ?_) rfl rfl (by kernel_rfl) (by kernel_rfl) (by kernel_rfl) (fun _ _ _ h => h) (Or.inl ⟨by rfl, ?_⟩) (by assumption) ?_
  rotate_left
  · intro w_ hSw_; (try dsimp only at hSw_); go_simp; (try with_reducible rfl)
  try simp only [Act.put, List.setIfInBounds_toArray, List.set_cons_zero, List.set_cons_succ]
  refine take_op 5 (some 10) (v := ?_) rfl rfl (by kernel_rfl) (by kernel_rfl) (by kernel_rfl) (fun _ _ _ h => h) (Or.inl ⟨by rfl, ?_⟩) (by assumption) ?_
  rotate_left
  · intro w_ hSw_; (try dsimp only at hSw_); go_simp; (try with_reducible rfl)
  try simp only [Act.put, List.setIfInBounds_toArray, List.set_cons_zero, List.set_cons_succ]
  refine take_op 6 (some 11) (v := ?_) rfl rfl (by kernel_rfl) (by kernel_rfl) (by kernel_rfl) (fun _ _ _ h => h) (Or.inl ⟨by rfl, ?_⟩) (by assumption) ?_
  rotate_left
  · intro w_ hSw_; (try dsimp only at hSw_); go_simp; (try with_reducible rfl)
  try simp only [Act.put, List.setIfInBounds_toArray, List.set_cons_zero, List.set_cons_succ]
  refine take_op 7 (some 12) (v := ?_) rfl rfl (by kernel_rfl) (by kernel_rfl) (by kernel_rfl) (fun _ _ _ h => h) (Or.inl ⟨by rfl, ?_⟩) (by assumption) ?_
  rotate_left
  · intro w_ hSw_; (try dsimp only at hSw_); go_simp; (try with_reducible rfl)
  try simp only [Act.put, List.setIfInBounds_toArray, List.set_cons_zero, List.set_cons_succ]
  refine take_op 8 (some 13) (v := ?_) rfl rfl (by kernel_rfl) (by kernel_rfl) (by kernel_rfl) (fun _ _ _ h => h) (Or.inl ⟨by rfl, ?_⟩) (by assumption) ?_
  rotate_left
  · intro w_ hSw_; (try dsimp only at hSw_); go_simp; (try with_reducible rfl)
  try simp only [Act.put, List.setIfInBounds_toArray, List.set_cons_zero, List.set_cons_succ]
  refine go_op 4 rfl (by kernel_rfl) (fun K_ hK_ => ?_)
  go_simp
  refine (jsize_any b mb m _ (HD.out.only ((Only.refl (fun _ => False) _).drew) (fun h => h) (fun h => h))).mono ?_
  rintro e w1 ⟨rfl, hw1⟩
  have hw1 := hw1.symm
  subst hw1
  rw [← HZ.out]
  have ms : IntKind.i64.wrap ((z : Int) - (j.used : Int)) = (z : Int) - (j.used : Int) := by rw [IntKind.wrap_i64]; omega
  simp only [Act.put, List.setIfInBounds_toArray, List.set_cons_zero, List.set_cons_succ]
  refine hK_.out _ _ hHeld (fun hHeld_ => ?_)
  refine take_op 9 (some 14) (v := ?_) rfl rfl (by kernel_rfl) (by kernel_rfl) (by kernel_rfl) (fun _ _ _ h => h) (Or.inl ⟨by rfl, ?_⟩) (by assumption) ?_
  rotate_left
  · intro w_ hSw_; (try dsimp only at hSw_); go_simp; (try with_reducible rfl)
  try simp only [Act.put, List.setIfInBounds_toArray, List.set_cons_zero, List.set_cons_succ]
  refine take_op 10 (some 2) (v := ?_) rfl rfl (by kernel_rfl) (by kernel_rfl) (by kernel_rfl) (fun _ _ _ h => h) (Or.inl ⟨by rfl, ?_⟩) (by assumption) ?_
  rotate_left
  · intro w_ hSw_; (try dsimp only at hSw_); go_simp; (try with_reducible rfl)
  try simp only [Act.put, List.setIfInBounds_toArray, List.set_cons_zero, List.set_cons_succ]
  refine wpAnyH_done (by kernel_rfl) ?_ _
  go_wp2_with fail
  go_ret
  exact ⟨rfl, (Below.refl _ _).drew⟩
theorem jbase_nil (w : World) : Calls Tryz.prog 27 #[.pointer none] w fun e w' => e = .returned (.string ByteArray.empty) ∧ w' = w := by
  go_enter Tryz.func27, Tryz.ntmps27
  go_wp2
  go_ret
  exact ⟨rfl, rfl⟩
theorem jnext_nil (w : World) : Calls Tryz.prog 30 #[.pointer none] w fun e w' => e = .returned (.int .u32 0) ∧ w' = w := by
  go_enter Tryz.func30, Tryz.ntmps30
  go_wp2
  go_ret
  exact ⟨rfl, rfl⟩
theorem jleft_nil (w : World) : Calls Tryz.prog 31 #[.pointer none] w fun e w' => e = .returned (.int .i64 0) ∧ w' = w := by
  go_enter Tryz.func31, Tryz.ntmps31
  go_wp2
  go_ret
  exact ⟨rfl, rfl⟩
theorem jrecs_nil (w : World) : Calls Tryz.prog 29 #[.pointer none] w fun e w' => e = .returned (.slice none 0 0) ∧ w' = w := by
  go_enter Tryz.func29, Tryz.ntmps29
  go_wp2
  go_ret
  exact ⟨rfl, rfl⟩
theorem jappend_nil (s : ByteArray) (w : World) : Calls Tryz.prog 11 #[.pointer none, .string s] w fun e w' => e = .returned (.int .i64 1) ∧ w' = w := by
  go_enter Tryz.func11, Tryz.ntmps11
  go_wp2
  go_ret
  exact ⟨rfl, rfl⟩
theorem jsave_nil (s : ByteArray) (w : World) : Calls Tryz.prog 13 #[.pointer none, .string s] w fun e w' => e = .returned (.int .i64 1) ∧ w' = w := by
  go_enter Tryz.func13, Tryz.ntmps13
  go_wp2
  go_ret
  exact ⟨rfl, rfl⟩
end Go.Proofs.YtcakellhellddaaGreatDoor
namespace Go.Proofs.YtcakellhellddaaGreatDoor
open Go.RowKit
def JM.may (j : JM) (s : ByteArray) (room : Int) : Int × Int :=
  if j.dead then (0, 74) else ((fitsF s room).1, if (fitsF s room).2 = 0 ∧ 2148483648 < j.next then 73 else (fitsF s room).2)
set_option maxHeartbeats 1000000 in
theorem jmay_any (jb b : Nat) (v : Value) (j : JM) (s : ByteArray) (room : Int) (w : World) (h : JAt w jb b v j) :
    Calls Tryz.prog 47 #[.pointer (some ⟨jb, 0, none⟩), .string s, .int .i64 room] w fun e w' => e = .returned (.tuple #[.int .i64 (j.may s room).1, .int .i64 (j.may s room).2]) ∧ w' = w := by
  have c6 : w.cell? ⟨jb, 6, none⟩ = some (.bool j.dead) := h.blk.cell 6
  have c4 : w.cell? ⟨jb, 4, none⟩ = some (.int .u32 (j.next : Int)) := h.blk.cell 4
  clear h
  obtain ⟨n, hn⟩ : ∃ n, n = j.next := ⟨_, rfl⟩
  rw [← hn] at c4
  have HN := Lib.hid hn
  clear hn
  cases hd : j.dead
  · rw [hd] at c6
    have HDD := Lib.hid hd
    clear hd
    go_enter Tryz.func47, Tryz.ntmps47
    go_wp2_with fail
    refine (fits_any s room _).mono ?_
    rintro e w1 ⟨rfl, hw1⟩
    have hw1 := hw1.symm
    subst hw1
    obtain ⟨f, hf⟩ : ∃ f, f = fitsF s room := ⟨_, rfl⟩
    rw [← hf]
    have HM : Hid (j.may s room = (f.1, if f.2 = 0 ∧ 2148483648 < n then 73 else f.2)) := Lib.hid (by unfold JM.may; rw [HDD.out, ← hf, ← HN.out]; rfl)
    clear hf
    obtain ⟨f1, f2⟩ := f
    dsimp only at HM ⊢
    by_cases he : f2 = 0
    · have g1 : (f2 == 0) = true := by rw [he]; rfl
      by_cases hb : 2148483648 < n
      · have g2 : (2148483648 : Int) < (n : Int) := by omega
        have HM2 : Hid (j.may s room = (f1, 73)) := Lib.hid (by rw [HM.out, if_pos ⟨he, hb⟩])
        clear he hb
        go_wp2_with fail
        go_ret2
        exact ⟨by rw [HM2.out]; rfl, rfl⟩
      · have g2 : ¬ (2148483648 : Int) < (n : Int) := by omega
        have HM2 : Hid (j.may s room = (f1, f2)) := Lib.hid (by rw [HM.out, if_neg (fun h => hb h.2)])
        clear he hb
        go_wp2_with fail
        go_ret2
        exact ⟨by rw [HM2.out]; rfl, rfl⟩
    · have g1 : (f2 == 0) = false := by simpa using he
      have HM2 : Hid (j.may s room = (f1, f2)) := Lib.hid (by rw [HM.out, if_neg (fun h => he h.1)])
      clear he
      go_wp2_with fail
      go_ret2
      exact ⟨by rw [HM2.out]; rfl, rfl⟩
  · rw [hd] at c6
    have HM2 : Hid (j.may s room = (0, 74)) := Lib.hid (by unfold JM.may; rw [hd]; rfl)
    clear hd
    go_enter Tryz.func47, Tryz.ntmps47
    go_wp2_with fail
    go_ret2
    exact ⟨by rw [HM2.out]; rfl, rfl⟩
theorem JAt.ne {w : World} {jb b : Nat} {v : Value} {j : JM} (h : JAt w jb b v j) : ∀ k, v.ownBlock = some k → k ≠ jb := by
  intro k hk e
  subst e
  rcases h.row.2 with ⟨rfl, _⟩ | ⟨g, cap, cur, rfl, _, h3, _⟩
  · cases hk
  · have hg : g = k := by simpa [Value.ownBlock] using hk
    subst hg
    have h1 := h.blk.out
    rw [h3] at h1
    injection h1 with h1
    injection h1 with _ h1 _
    exact absurd h1 (by decide)
theorem JAt.setDead {w : World} {jb b : Nat} {v : Value} {j : JM} (h : JAt w jb b v j) (x : Bool) : JAt (w.setCell ⟨jb, 6, none⟩ (.bool x)) jb b v { j with dead := x } ∧ Only (fun k => k = jb) w (w.setCell ⟨jb, 6, none⟩ (.bool x)) := by
  have ho : Only (fun k => k = jb) w (w.setCell ⟨jb, 6, none⟩ (.bool x)) := (Only.refl (fun k => k = jb) w).setCell (p := ⟨jb, 6, none⟩) (fun _ => rfl) _
  exact ⟨⟨⟨h.wf.1, h.wf.2, h.wf.3, h.wf.4⟩, h.blk.setCell 6 (.bool x), owns_only h.row ho (h.ne)⟩, ho⟩
theorem jwrote_any (jb b : Nat) (v : Value) (j : JM) (er : Int) (w : World) (h : JAt w jb b v j) :
    Calls Tryz.prog 48 #[.pointer (some ⟨jb, 0, none⟩), .int .i64 er] w fun e w' => e = .returned (.int .i64 er) ∧ JAt w' jb b v { j with dead := j.dead || er != 0 } ∧ Only (fun k => k = jb) w w' := by
  have c6 : w.cell? ⟨jb, 6, none⟩ = some (.bool j.dead) := h.blk.cell 6
  have f6 := h.blk.free 6
  obtain ⟨d, hd⟩ : ∃ d, d = j.dead := ⟨_, rfl⟩
  rw [← hd] at c6 ⊢
  have HJ := Lib.hid h
  clear h hd
  cases d
  · by_cases he : er = 0
    · have g1 : (er != 0) = false := by rw [he]; rfl
      have hx : Hid ((false || er != 0) = false) := Lib.hid (by rw [g1]; rfl)
      clear he
      go_enter Tryz.func48, Tryz.ntmps48
      go_wp2_with fail
      go_ret
      rw [hx.out]
      exact ⟨rfl, HJ.out.setDead false⟩
    · have g1 : (er != 0) = true := by simpa using he
      have hx : Hid ((false || er != 0) = true) := Lib.hid (by rw [g1]; rfl)
      clear he
      go_enter Tryz.func48, Tryz.ntmps48
      go_wp2_with fail
      go_ret
      rw [hx.out]
      exact ⟨rfl, HJ.out.setDead true⟩
  · have hx : Hid ((true || er != 0) = true) := Lib.hid (by rfl)
    go_enter Tryz.func48, Tryz.ntmps48
    go_wp2_with fail
    go_ret
    rw [hx.out]
    exact ⟨rfl, HJ.out.setDead true⟩
end Go.Proofs.YtcakellhellddaaGreatDoor
