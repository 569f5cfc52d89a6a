import Derived.Test.YtimiehnknehagaaDiffP
import Derived.Test.YtimiehnknehagaaRegInv
set_option linter.unusedSimpArgs false
set_option linter.unusedVariables false
namespace Go.Proofs.Ytimiehnknehagaa
open Go.RowKit
/-! The reference's fits and of. -/
set_option maxHeartbeats 2000000 in
theorem fits_any (a b : Int) (ha : in64 a) (hb : in64 b) (w : World) : Calls Try.prog 29 #[.int .i64 a, .int .i64 b] w fun e w' => e = .returned (.bool (decide (in64 (a - b)))) ∧ w' = w := by
  unfold in64 at ha hb
  by_cases h0 : 0 ≤ b
  · have q : IntKind.i64.wrap (-9223372036854775808 + b) = -9223372036854775808 + b := by rw [IntKind.wrap_i64]; omega
    by_cases hin : in64 (a - b)
    · have h1 : -9223372036854775808 + b ≤ a := by unfold in64 at hin; omega
      have hd : Hid (decide (in64 (a - b)) = true) := Lib.hid (decide_eq_true hin)
      clear hin ha hb
      go_enter Try.func29, Try.ntmps29
      go_wp2_with fail
      go_ret
      exact ⟨by rw [hd.out]; rfl, rfl⟩
    · have h1 : ¬ -9223372036854775808 + b ≤ a := by unfold in64 at hin; omega
      have hd : Hid (decide (in64 (a - b)) = false) := Lib.hid (decide_eq_false hin)
      clear hin ha hb
      go_enter Try.func29, Try.ntmps29
      go_wp2_with fail
      go_ret
      exact ⟨by rw [hd.out]; rfl, rfl⟩
  · have q : IntKind.i64.wrap (9223372036854775807 + b) = 9223372036854775807 + b := by rw [IntKind.wrap_i64]; omega
    by_cases hin : in64 (a - b)
    · have h1 : a ≤ 9223372036854775807 + b := by unfold in64 at hin; omega
      have hd : Hid (decide (in64 (a - b)) = true) := Lib.hid (decide_eq_true hin)
      clear hin ha hb
      go_enter Try.func29, Try.ntmps29
      go_wp2_with fail
      go_ret
      exact ⟨by rw [hd.out]; rfl, rfl⟩
    · have h1 : ¬ a ≤ 9223372036854775807 + b := by unfold in64 at hin; omega
      have hd : Hid (decide (in64 (a - b)) = false) := Lib.hid (decide_eq_false hin)
      clear hin ha hb
      go_enter Try.func29, Try.ntmps29
      go_wp2_with fail
      go_ret
      exact ⟨by rw [hd.out]; rfl, rfl⟩
/-- A bucket of the first loan of an Id. -/
def valF (l : List LoanM) (id b : Int) : Int := (buckOf l (id, b)).getD 0
theorem valF_at {l : List LoanM} {i : Nat} {x : LoanM} (hx : l[i]? = some x) (hb : ∀ y ∈ l.take i, ¬ y.id = x.id) : l.find? (fun y => y.id == x.id) = some x := by
  rw [List.find?_eq_some_iff_getElem]
  obtain ⟨hl, he⟩ := List.getElem?_eq_some_iff.1 hx
  refine ⟨by simp, i, hl, he, fun j hj => ?_⟩
  have := hb l[j] (List.mem_iff_getElem.2 ⟨j, by rw [List.length_take]; omega, by rw [List.getElem_take]⟩)
  simpa using this
theorem valF_none {l : List LoanM} {id b : Int} (h : ∀ y ∈ l, ¬ y.id = id) : valF l id b = 0 := by
  have : l.find? (fun y => y.id == id) = none := by
    rw [List.find?_eq_none]; intro x hx; simpa using h x hx
  unfold valF buckOf
  simp only [this]; rfl
set_option maxHeartbeats 4000000 in
theorem bof_any (vl : Value) (l : List LoanM) (id b : Int) (hb : 1 ≤ b ∧ b ≤ 3) (w : World) (hl : RowsAt encLoan 13 w vl l) :
    Calls Try.prog 28 #[vl, .int .i64 id, .int .i64 b] w fun e w' => e = .returned (.int .i64 (valF l id b)) ∧ Below w.heap.size w w' := by
  obtain ⟨ad, c, rfl, hl1, hl2, hls⟩ := hl
  obtain ⟨n, hn⟩ : ∃ n, n = l.length := ⟨_, rfl⟩
  rw [← hn] at hl1 hl2 ⊢
  have HN := Lib.hid hn
  have HL := Lib.hid hls
  have HBB := Lib.hid hb
  clear hn hls hb
  go_enter Try.func28, Try.ntmps28
  go_wp2_with fail
  go_loopw [6, 7] (fun x6 x wr => ∃ (i : Nat), i ≤ n ∧ x = .int .i64 i ∧ x6 = .int .i64 0 ∧ (∀ y ∈ l.take i, ¬ y.id = id) ∧ wr = w) (fun _ x _ => n - (intOf x).toNat)
  case atStart => exact ⟨0, Nat.zero_le _, rfl, rfl, by simp, rfl⟩
  case round =>
    obtain ⟨i, hi, rfl, rfl, hA, hq⟩ := hrel
    subst hq
    have HA := Lib.hid hA
    clear hA
    by_cases hlt : i < n
    · have g1 : (i : Int) < (n : Int) := by omega
      obtain ⟨x, hx⟩ : ∃ x, l[i]? = some x := ⟨l[i]'(by have := HN.out; omega), List.getElem?_eq_getElem _⟩
      obtain ⟨be, oe, rfl, hbe, hc⟩ := loan_cell HL.out i x hx
      have f0 : wr.cell? ⟨be, oe + i * 13, none⟩ = some (.int .i64 x.id) := hc 0 _ rfl
      have f1 : wr.cell? ⟨be, oe + i * 13 + 1, none⟩ = some (.int .i64 x.principal) := hc 1 _ rfl
      have f2 : wr.cell? ⟨be, oe + i * 13 + 2, none⟩ = some (.int .i64 x.interest) := hc 2 _ rfl
      have f4 : wr.cell? ⟨be, oe + i * 13 + 4, none⟩ = some (.int .i64 x.fees) := hc 4 _ rfl
      have HX := Lib.hid hx
      clear hc hx
      by_cases hid : x.id = id
      · have HF : Hid (l.find? (fun y => y.id == id) = some x) := Lib.hid (by rw [← hid]; exact valF_at HX.out (fun y hy => by rw [hid]; exact HA.out y hy))
        subst hid
        by_cases b1 : b = 1
        · subst b1
          have HV : Hid (valF l x.id 1 = x.principal) := Lib.hid (by unfold valF buckOf; simp [HF.out])
          have q0 : IntKind.i64.wrap 0 = 0 := by decide
          have q1 : IntKind.i64.wrap 1 = 1 := by decide
          have q2 : IntKind.i64.wrap 2 = 2 := by decide
          go_wp2_with fail
          refine wp_region_held_drew (S := fun w' => w'.cell? ⟨be, oe + i * 13 + 1, none⟩ = some (.int .i64 x.principal) ∧ w'.cell? ⟨be, oe + i * 13 + 2, none⟩ = some (.int .i64 x.interest) ∧ w'.cell? ⟨be, oe + i * 13 + 4, none⟩ = some (.int .i64 x.fees)) (by kernel_rfl) ⟨f1, f2, f4⟩ (fun hHeld => ?_)
          refine take_op 0 (some 21) (v := ?_) rfl rfl (by kernel_rfl) (by kernel_rfl) (by kernel_rfl) (fun _ _ _ h => h) (Or.inl ⟨by rfl, ?_⟩) (by assumption) ?_
          rotate_left
          · intro w_ hSw_; (try dsimp only at hSw_); go_simp; (try with_reducible rfl)
          try simp only [Act.put, List.setIfInBounds_toArray, List.set_cons_zero, List.set_cons_succ]
          refine take_op 1 (some 22) (v := ?_) rfl rfl (by kernel_rfl) (by kernel_rfl) (by kernel_rfl) (fun _ _ _ h => h) (Or.inl ⟨by rfl, ?_⟩) (by assumption) ?_
          rotate_left
          · intro w_ hSw_; (try dsimp only at hSw_); go_simp; (try with_reducible rfl)
          try simp only [Act.put, List.setIfInBounds_toArray, List.set_cons_zero, List.set_cons_succ]
          refine take_op 2 (some 23) (v := ?_) rfl rfl (by kernel_rfl) (by kernel_rfl) (by kernel_rfl) (fun _ _ _ h => h) (Or.inl ⟨by rfl, ?_⟩) (by assumption) ?_
          rotate_left
          · intro w_ hSw_; (try dsimp only at hSw_); go_simp; (try with_reducible rfl)
          try simp only [Act.put, List.setIfInBounds_toArray, List.set_cons_zero, List.set_cons_succ]
          refine take_op 3 (some 24) (v := ?_) rfl rfl (by kernel_rfl) (by kernel_rfl) (by kernel_rfl) (fun _ _ _ h => h) (Or.inl ⟨by rfl, ?_⟩) (by assumption) ?_
          rotate_left
          · intro w_ hSw_; (try dsimp only at hSw_); go_simp; (try with_reducible rfl)
          try simp only [Act.put, List.setIfInBounds_toArray, List.set_cons_zero, List.set_cons_succ]
          refine take_op 4 (some 25) (v := ?_) rfl rfl (by kernel_rfl) (by kernel_rfl) (by kernel_rfl) (fun _ _ _ h => h) (Or.inl ⟨by rfl, ?_⟩) (by assumption) ?_
          rotate_left
          · intro w_ hSw_; (try dsimp only at hSw_); go_simp; (try with_reducible rfl)
          try simp only [Act.put, List.setIfInBounds_toArray, List.set_cons_zero, List.set_cons_succ]
          refine take_op 5 (some 26) (v := ?_) rfl rfl (by kernel_rfl) (by kernel_rfl) (by kernel_rfl) (fun _ _ _ h => h) (Or.inl ⟨by rfl, ?_⟩) (by assumption) ?_
          rotate_left
          · intro w_ hSw_; (try dsimp only at hSw_); go_simp; (try with_reducible rfl)
          try simp only [Act.put, List.setIfInBounds_toArray, List.set_cons_zero, List.set_cons_succ]
          refine take_op 6 (some 27) (v := ?_) rfl rfl (by kernel_rfl) (by kernel_rfl) (by kernel_rfl) (fun _ _ _ h => h) (Or.inl ⟨by rfl, ?_⟩) (by assumption) ?_
          rotate_left
          · intro w_ hSw_; (try dsimp only at hSw_); go_simp; (try with_reducible rfl)
          try simp only [Act.put, List.setIfInBounds_toArray, List.set_cons_zero, List.set_cons_succ]
          refine take_op 7 (some 28) (v := ?_) rfl rfl (by kernel_rfl) (by kernel_rfl) (by kernel_rfl) (fun _ _ _ h => h) (Or.inl ⟨by rfl, ?_⟩) (by assumption) ?_
          rotate_left
          · intro w_ hSw_; (try dsimp only at hSw_); go_simp; (try with_reducible rfl)
          try simp only [Act.put, List.setIfInBounds_toArray, List.set_cons_zero, List.set_cons_succ]
          refine take_op 8 (some 29) (v := ?_) rfl rfl (by kernel_rfl) (by kernel_rfl) (by kernel_rfl) (fun _ _ _ h => h) (Or.inl ⟨by rfl, ?_⟩) (by assumption) ?_
          rotate_left
          · intro w_ hSw_; (try dsimp only at hSw_); go_simp; (try with_reducible rfl)
          try simp only [Act.put, List.setIfInBounds_toArray, List.set_cons_zero, List.set_cons_succ]
          refine take_op 9 (some 30) (v := ?_) rfl rfl (by kernel_rfl) (by kernel_rfl) (by kernel_rfl) (fun _ _ _ h => h) (Or.inl ⟨by rfl, ?_⟩) (by assumption) ?_
          rotate_left
          · intro w_ hSw_; (try dsimp only at hSw_); go_simp; (try with_reducible rfl)
          try simp only [Act.put, List.setIfInBounds_toArray, List.set_cons_zero, List.set_cons_succ]
          refine take_op 10 (some 31) (v := ?_) rfl rfl (by kernel_rfl) (by kernel_rfl) (by kernel_rfl) (fun _ _ _ h => h) (Or.inl ⟨by rfl, ?_⟩) (by assumption) ?_
          rotate_left
          · intro w_ hSw_; (try dsimp only at hSw_); go_simp; (try with_reducible rfl)
          try simp only [Act.put, List.setIfInBounds_toArray, List.set_cons_zero, List.set_cons_succ]
          refine take_op 11 (some 32) (v := ?_) rfl rfl (by kernel_rfl) (by kernel_rfl) (by kernel_rfl) (fun _ _ _ h => h) (Or.inl ⟨by rfl, ?_⟩) (by assumption) ?_
          rotate_left
          · intro w_ hSw_; (try dsimp only at hSw_); go_simp; (try with_reducible rfl)
          try simp only [Act.put, List.setIfInBounds_toArray, List.set_cons_zero, List.set_cons_succ]
          refine take_op 12 (some 33) (v := ?_) rfl rfl (by kernel_rfl) (by kernel_rfl) (by kernel_rfl) (fun _ _ _ h => h) (Or.inl ⟨by rfl, ?_⟩) (by assumption) ?_
          rotate_left
          · intro w_ hSw_; (try dsimp only at hSw_); go_simp; (try with_reducible rfl)
          try simp only [Act.put, List.setIfInBounds_toArray, List.set_cons_zero, List.set_cons_succ]
          refine take_op 13 (some 34) (v := ?_) rfl rfl (by kernel_rfl) (by kernel_rfl) (by kernel_rfl) (fun _ _ _ h => h) (Or.inl ⟨by rfl, ?_⟩) (by assumption) ?_
          rotate_left
          · intro w_ hSw_; (try dsimp only at hSw_); go_simp; (try with_reducible rfl)
          try simp only [Act.put, List.setIfInBounds_toArray, List.set_cons_zero, List.set_cons_succ]
          refine take_op 14 (some 35) (v := ?_) rfl rfl (by kernel_rfl) (by kernel_rfl) (by kernel_rfl) (fun _ _ _ h => h) (Or.inl ⟨by rfl, ?_⟩) (by assumption) ?_
          rotate_left
          · intro w_ hSw_; (try dsimp only at hSw_); go_simp; (try with_reducible rfl)
          try simp only [Act.put, List.setIfInBounds_toArray, List.set_cons_zero, List.set_cons_succ]
          refine take_op 16 (some 37) (v := ?_) rfl rfl (by kernel_rfl) (by kernel_rfl) (by kernel_rfl) (fun _ _ _ h => h) (Or.inl ⟨by rfl, ?_⟩) (by assumption) ?_
          rotate_left
          · intro w_ hSw_; (try dsimp only at hSw_); go_simp; (try with_reducible rfl)
          try simp only [Act.put, List.setIfInBounds_toArray, List.set_cons_zero, List.set_cons_succ]
          refine take_op 17 (some 38) (v := ?_) rfl rfl (by kernel_rfl) (by kernel_rfl) (by kernel_rfl) (fun _ _ _ h => h) (Or.inl ⟨by rfl, ?_⟩) (by assumption) ?_
          rotate_left
          · intro w_ hSw_; (try dsimp only at hSw_); go_simp; (try with_reducible rfl)
          try simp only [Act.put, List.setIfInBounds_toArray, List.set_cons_zero, List.set_cons_succ]
          refine go_op 15 rfl (by kernel_rfl) (fun K_ hK_ => ?_)
          go_simp
          have hbz : Below wr.heap.size wr (wr.alloc (.cells #[.int .i64 x.principal, .int .i64 x.interest, .int .i64 x.fees] 2)).drew := ((Below.refl _ wr).alloc (Nat.le_refl _) _).drew
          have hkz : Blk (wr.alloc (.cells #[.int .i64 x.principal, .int .i64 x.interest, .int .i64 x.fees] 2)).drew wr.heap.size #[.int .i64 x.principal, .int .i64 x.interest, .int .i64 x.fees] 2 := (Blk.new wr _ _).drew
          revert hbz hkz
          generalize (wr.alloc _).drew = wz
          intro hbz hkz
          refine hK_.out _ _ ⟨(hbz.cell (p := ⟨be, oe + i * 13 + 1, none⟩) hbe).trans f1, (hbz.cell (p := ⟨be, oe + i * 13 + 2, none⟩) hbe).trans f2, (hbz.cell (p := ⟨be, oe + i * 13 + 4, none⟩) hbe).trans f4⟩ (fun hHeld_ => ?_)
          have z0 : wz.cell? ⟨wr.heap.size, 0, none⟩ = some (.int .i64 x.principal) := hkz.cell 0
          have z1 : wz.cell? ⟨wr.heap.size, 1, none⟩ = some (.int .i64 x.interest) := hkz.cell 1
          have z2 : wz.cell? ⟨wr.heap.size, 2, none⟩ = some (.int .i64 x.fees) := hkz.cell 2
          refine take_op 18 (some 39) (v := ?_) rfl rfl (by kernel_rfl) (by kernel_rfl) (by kernel_rfl) (fun _ _ _ h => h) (Or.inl ⟨by rfl, ?_⟩) (by assumption) ?_
          rotate_left
          · intro w_ hSw_; (try dsimp only at hSw_); go_simp; (try with_reducible rfl)
          try simp only [Act.put, List.setIfInBounds_toArray, List.set_cons_zero, List.set_cons_succ]
          refine go_op 19 rfl (by kernel_rfl) (fun K_ hK_ => ?_)
          go_simp
          refine hK_.out _ _ hHeld_ (fun hHeld_ => ?_)
          refine take_op 20 (some 6) (v := ?_) rfl rfl (by kernel_rfl) (by kernel_rfl) (by kernel_rfl) (fun _ _ _ h => h) (Or.inl ⟨by rfl, ?_⟩) (by assumption) ?_
          rotate_left
          · intro w_ hSw_; (try dsimp only at hSw_); go_simp; (try with_reducible rfl)
          try simp only [Act.put, List.setIfInBounds_toArray, List.set_cons_zero, List.set_cons_succ]
          refine wpAnyH_done (by kernel_rfl) ?_ _
          clear hHeld hHeld_ z0 z1 z2 hkz
          have HBZ := Lib.hid hbz
          go_wp2_with fail
          go_ret
          exact ⟨by rw [HV.out]; rfl, HBZ.out⟩
        · by_cases b2 : b = 2
          · subst b2
            have HV : Hid (valF l x.id 2 = x.interest) := Lib.hid (by unfold valF buckOf; simp [HF.out])
            have q0 : IntKind.i64.wrap 0 = 0 := by decide
            have q1 : IntKind.i64.wrap 1 = 1 := by decide
            have q2 : IntKind.i64.wrap 2 = 2 := by decide
            go_wp2_with fail
            refine wp_region_held_drew (S := fun w' => w'.cell? ⟨be, oe + i * 13 + 1, none⟩ = some (.int .i64 x.principal) ∧ w'.cell? ⟨be, oe + i * 13 + 2, none⟩ = some (.int .i64 x.interest) ∧ w'.cell? ⟨be, oe + i * 13 + 4, none⟩ = some (.int .i64 x.fees)) (by kernel_rfl) ⟨f1, f2, f4⟩ (fun hHeld => ?_)
            refine take_op 0 (some 21) (v := ?_) rfl rfl (by kernel_rfl) (by kernel_rfl) (by kernel_rfl) (fun _ _ _ h => h) (Or.inl ⟨by rfl, ?_⟩) (by assumption) ?_
            rotate_left
            · intro w_ hSw_; (try dsimp only at hSw_); go_simp; (try with_reducible rfl)
            try simp only [Act.put, List.setIfInBounds_toArray, List.set_cons_zero, List.set_cons_succ]
            refine take_op 1 (some 22) (v := ?_) rfl rfl (by kernel_rfl) (by kernel_rfl) (by kernel_rfl) (fun _ _ _ h => h) (Or.inl ⟨by rfl, ?_⟩) (by assumption) ?_
            rotate_left
            · intro w_ hSw_; (try dsimp only at hSw_); go_simp; (try with_reducible rfl)
            try simp only [Act.put, List.setIfInBounds_toArray, List.set_cons_zero, List.set_cons_succ]
            refine take_op 2 (some 23) (v := ?_) rfl rfl (by kernel_rfl) (by kernel_rfl) (by kernel_rfl) (fun _ _ _ h => h) (Or.inl ⟨by rfl, ?_⟩) (by assumption) ?_
            rotate_left
            · intro w_ hSw_; (try dsimp only at hSw_); go_simp; (try with_reducible rfl)
            try simp only [Act.put, List.setIfInBounds_toArray, List.set_cons_zero, List.set_cons_succ]
            refine take_op 3 (some 24) (v := ?_) rfl rfl (by kernel_rfl) (by kernel_rfl) (by kernel_rfl) (fun _ _ _ h => h) (Or.inl ⟨by rfl, ?_⟩) (by assumption) ?_
            rotate_left
            · intro w_ hSw_; (try dsimp only at hSw_); go_simp; (try with_reducible rfl)
            try simp only [Act.put, List.setIfInBounds_toArray, List.set_cons_zero, List.set_cons_succ]
            refine take_op 4 (some 25) (v := ?_) rfl rfl (by kernel_rfl) (by kernel_rfl) (by kernel_rfl) (fun _ _ _ h => h) (Or.inl ⟨by rfl, ?_⟩) (by assumption) ?_
            rotate_left
            · intro w_ hSw_; (try dsimp only at hSw_); go_simp; (try with_reducible rfl)
            try simp only [Act.put, List.setIfInBounds_toArray, List.set_cons_zero, List.set_cons_succ]
            refine take_op 5 (some 26) (v := ?_) rfl rfl (by kernel_rfl) (by kernel_rfl) (by kernel_rfl) (fun _ _ _ h => h) (Or.inl ⟨by rfl, ?_⟩) (by assumption) ?_
            rotate_left
            · intro w_ hSw_; (try dsimp only at hSw_); go_simp; (try with_reducible rfl)
            try simp only [Act.put, List.setIfInBounds_toArray, List.set_cons_zero, List.set_cons_succ]
            refine take_op 6 (some 27) (v := ?_) rfl rfl (by kernel_rfl) (by kernel_rfl) (by kernel_rfl) (fun _ _ _ h => h) (Or.inl ⟨by rfl, ?_⟩) (by assumption) ?_
            rotate_left
            · intro w_ hSw_; (try dsimp only at hSw_); go_simp; (try with_reducible rfl)
            try simp only [Act.put, List.setIfInBounds_toArray, List.set_cons_zero, List.set_cons_succ]
            refine take_op 7 (some 28) (v := ?_) rfl rfl (by kernel_rfl) (by kernel_rfl) (by kernel_rfl) (fun _ _ _ h => h) (Or.inl ⟨by rfl, ?_⟩) (by assumption) ?_
            rotate_left
            · intro w_ hSw_; (try dsimp only at hSw_); go_simp; (try with_reducible rfl)
            try simp only [Act.put, List.setIfInBounds_toArray, List.set_cons_zero, List.set_cons_succ]
            refine take_op 8 (some 29) (v := ?_) rfl rfl (by kernel_rfl) (by kernel_rfl) (by kernel_rfl) (fun _ _ _ h => h) (Or.inl ⟨by rfl, ?_⟩) (by assumption) ?_
            rotate_left
            · intro w_ hSw_; (try dsimp only at hSw_); go_simp; (try with_reducible rfl)
            try simp only [Act.put, List.setIfInBounds_toArray, List.set_cons_zero, List.set_cons_succ]
            refine take_op 9 (some 30) (v := ?_) rfl rfl (by kernel_rfl) (by kernel_rfl) (by kernel_rfl) (fun _ _ _ h => h) (Or.inl ⟨by rfl, ?_⟩) (by assumption) ?_
            rotate_left
            · intro w_ hSw_; (try dsimp only at hSw_); go_simp; (try with_reducible rfl)
            try simp only [Act.put, List.setIfInBounds_toArray, List.set_cons_zero, List.set_cons_succ]
            refine take_op 10 (some 31) (v := ?_) rfl rfl (by kernel_rfl) (by kernel_rfl) (by kernel_rfl) (fun _ _ _ h => h) (Or.inl ⟨by rfl, ?_⟩) (by assumption) ?_
            rotate_left
            · intro w_ hSw_; (try dsimp only at hSw_); go_simp; (try with_reducible rfl)
            try simp only [Act.put, List.setIfInBounds_toArray, List.set_cons_zero, List.set_cons_succ]
            refine take_op 11 (some 32) (v := ?_) rfl rfl (by kernel_rfl) (by kernel_rfl) (by kernel_rfl) (fun _ _ _ h => h) (Or.inl ⟨by rfl, ?_⟩) (by assumption) ?_
            rotate_left
            · intro w_ hSw_; (try dsimp only at hSw_); go_simp; (try with_reducible rfl)
            try simp only [Act.put, List.setIfInBounds_toArray, List.set_cons_zero, List.set_cons_succ]
            refine take_op 12 (some 33) (v := ?_) rfl rfl (by kernel_rfl) (by kernel_rfl) (by kernel_rfl) (fun _ _ _ h => h) (Or.inl ⟨by rfl, ?_⟩) (by assumption) ?_
            rotate_left
            · intro w_ hSw_; (try dsimp only at hSw_); go_simp; (try with_reducible rfl)
            try simp only [Act.put, List.setIfInBounds_toArray, List.set_cons_zero, List.set_cons_succ]
            refine take_op 13 (some 34) (v := ?_) rfl rfl (by kernel_rfl) (by kernel_rfl) (by kernel_rfl) (fun _ _ _ h => h) (Or.inl ⟨by rfl, ?_⟩) (by assumption) ?_
            rotate_left
            · intro w_ hSw_; (try dsimp only at hSw_); go_simp; (try with_reducible rfl)
            try simp only [Act.put, List.setIfInBounds_toArray, List.set_cons_zero, List.set_cons_succ]
            refine take_op 14 (some 35) (v := ?_) rfl rfl (by kernel_rfl) (by kernel_rfl) (by kernel_rfl) (fun _ _ _ h => h) (Or.inl ⟨by rfl, ?_⟩) (by assumption) ?_
            rotate_left
            · intro w_ hSw_; (try dsimp only at hSw_); go_simp; (try with_reducible rfl)
            try simp only [Act.put, List.setIfInBounds_toArray, List.set_cons_zero, List.set_cons_succ]
            refine take_op 16 (some 37) (v := ?_) rfl rfl (by kernel_rfl) (by kernel_rfl) (by kernel_rfl) (fun _ _ _ h => h) (Or.inl ⟨by rfl, ?_⟩) (by assumption) ?_
            rotate_left
            · intro w_ hSw_; (try dsimp only at hSw_); go_simp; (try with_reducible rfl)
            try simp only [Act.put, List.setIfInBounds_toArray, List.set_cons_zero, List.set_cons_succ]
            refine take_op 17 (some 38) (v := ?_) rfl rfl (by kernel_rfl) (by kernel_rfl) (by kernel_rfl) (fun _ _ _ h => h) (Or.inl ⟨by rfl, ?_⟩) (by assumption) ?_
            rotate_left
            · intro w_ hSw_; (try dsimp only at hSw_); go_simp; (try with_reducible rfl)
            try simp only [Act.put, List.setIfInBounds_toArray, List.set_cons_zero, List.set_cons_succ]
            refine go_op 15 rfl (by kernel_rfl) (fun K_ hK_ => ?_)
            go_simp
            have hbz : Below wr.heap.size wr (wr.alloc (.cells #[.int .i64 x.principal, .int .i64 x.interest, .int .i64 x.fees] 2)).drew := ((Below.refl _ wr).alloc (Nat.le_refl _) _).drew
            have hkz : Blk (wr.alloc (.cells #[.int .i64 x.principal, .int .i64 x.interest, .int .i64 x.fees] 2)).drew wr.heap.size #[.int .i64 x.principal, .int .i64 x.interest, .int .i64 x.fees] 2 := (Blk.new wr _ _).drew
            revert hbz hkz
            generalize (wr.alloc _).drew = wz
            intro hbz hkz
            refine hK_.out _ _ ⟨(hbz.cell (p := ⟨be, oe + i * 13 + 1, none⟩) hbe).trans f1, (hbz.cell (p := ⟨be, oe + i * 13 + 2, none⟩) hbe).trans f2, (hbz.cell (p := ⟨be, oe + i * 13 + 4, none⟩) hbe).trans f4⟩ (fun hHeld_ => ?_)
            have z0 : wz.cell? ⟨wr.heap.size, 0, none⟩ = some (.int .i64 x.principal) := hkz.cell 0
            have z1 : wz.cell? ⟨wr.heap.size, 1, none⟩ = some (.int .i64 x.interest) := hkz.cell 1
            have z2 : wz.cell? ⟨wr.heap.size, 2, none⟩ = some (.int .i64 x.fees) := hkz.cell 2
            refine take_op 18 (some 39) (v := ?_) rfl rfl (by kernel_rfl) (by kernel_rfl) (by kernel_rfl) (fun _ _ _ h => h) (Or.inl ⟨by rfl, ?_⟩) (by assumption) ?_
            rotate_left
            · intro w_ hSw_; (try dsimp only at hSw_); go_simp; (try with_reducible rfl)
            try simp only [Act.put, List.setIfInBounds_toArray, List.set_cons_zero, List.set_cons_succ]
            refine go_op 19 rfl (by kernel_rfl) (fun K_ hK_ => ?_)
            go_simp
            refine hK_.out _ _ hHeld_ (fun hHeld_ => ?_)
            refine take_op 20 (some 6) (v := ?_) rfl rfl (by kernel_rfl) (by kernel_rfl) (by kernel_rfl) (fun _ _ _ h => h) (Or.inl ⟨by rfl, ?_⟩) (by assumption) ?_
            rotate_left
            · intro w_ hSw_; (try dsimp only at hSw_); go_simp; (try with_reducible rfl)
            try simp only [Act.put, List.setIfInBounds_toArray, List.set_cons_zero, List.set_cons_succ]
            refine wpAnyH_done (by kernel_rfl) ?_ _
            clear hHeld hHeld_ z0 z1 z2 hkz
            have HBZ := Lib.hid hbz
            go_wp2_with fail
            go_ret
            exact ⟨by rw [HV.out]; rfl, HBZ.out⟩
          · have b3 : b = 3 := by have := HBB.out; omega
            subst b3
            have HV : Hid (valF l x.id 3 = x.fees) := Lib.hid (by unfold valF buckOf; simp [HF.out])
            have q0 : IntKind.i64.wrap 0 = 0 := by decide
            have q1 : IntKind.i64.wrap 1 = 1 := by decide
            have q2 : IntKind.i64.wrap 2 = 2 := by decide
            go_wp2_with fail
            refine wp_region_held_drew (S := fun w' => w'.cell? ⟨be, oe + i * 13 + 1, none⟩ = some (.int .i64 x.principal) ∧ w'.cell? ⟨be, oe + i * 13 + 2, none⟩ = some (.int .i64 x.interest) ∧ w'.cell? ⟨be, oe + i * 13 + 4, none⟩ = some (.int .i64 x.fees)) (by kernel_rfl) ⟨f1, f2, f4⟩ (fun hHeld => ?_)
            refine take_op 0 (some 21) (v := ?_) rfl rfl (by kernel_rfl) (by kernel_rfl) (by kernel_rfl) (fun _ _ _ h => h) (Or.inl ⟨by rfl, ?_⟩) (by assumption) ?_
            rotate_left
            · intro w_ hSw_; (try dsimp only at hSw_); go_simp; (try with_reducible rfl)
            try simp only [Act.put, List.setIfInBounds_toArray, List.set_cons_zero, List.set_cons_succ]
            refine take_op 1 (some 22) (v := ?_) rfl rfl (by kernel_rfl) (by kernel_rfl) (by kernel_rfl) (fun _ _ _ h => h) (Or.inl ⟨by rfl, ?_⟩) (by assumption) ?_
            rotate_left
            · intro w_ hSw_; (try dsimp only at hSw_); go_simp; (try with_reducible rfl)
            try simp only [Act.put, List.setIfInBounds_toArray, List.set_cons_zero, List.set_cons_succ]
            refine take_op 2 (some 23) (v := ?_) rfl rfl (by kernel_rfl) (by kernel_rfl) (by kernel_rfl) (fun _ _ _ h => h) (Or.inl ⟨by rfl, ?_⟩) (by assumption) ?_
            rotate_left
            · intro w_ hSw_; (try dsimp only at hSw_); go_simp; (try with_reducible rfl)
            try simp only [Act.put, List.setIfInBounds_toArray, List.set_cons_zero, List.set_cons_succ]
            refine take_op 3 (some 24) (v := ?_) rfl rfl (by kernel_rfl) (by kernel_rfl) (by kernel_rfl) (fun _ _ _ h => h) (Or.inl ⟨by rfl, ?_⟩) (by assumption) ?_
            rotate_left
            · intro w_ hSw_; (try dsimp only at hSw_); go_simp; (try with_reducible rfl)
            try simp only [Act.put, List.setIfInBounds_toArray, List.set_cons_zero, List.set_cons_succ]
            refine take_op 4 (some 25) (v := ?_) rfl rfl (by kernel_rfl) (by kernel_rfl) (by kernel_rfl) (fun _ _ _ h => h) (Or.inl ⟨by rfl, ?_⟩) (by assumption) ?_
            rotate_left
            · intro w_ hSw_; (try dsimp only at hSw_); go_simp; (try with_reducible rfl)
            try simp only [Act.put, List.setIfInBounds_toArray, List.set_cons_zero, List.set_cons_succ]
            refine take_op 5 (some 26) (v := ?_) rfl rfl (by kernel_rfl) (by kernel_rfl) (by kernel_rfl) (fun _ _ _ h => h) (Or.inl ⟨by rfl, ?_⟩) (by assumption) ?_
            rotate_left
            · intro w_ hSw_; (try dsimp only at hSw_); go_simp; (try with_reducible rfl)
            try simp only [Act.put, List.setIfInBounds_toArray, List.set_cons_zero, List.set_cons_succ]
            refine take_op 6 (some 27) (v := ?_) rfl rfl (by kernel_rfl) (by kernel_rfl) (by kernel_rfl) (fun _ _ _ h => h) (Or.inl ⟨by rfl, ?_⟩) (by assumption) ?_
            rotate_left
            · intro w_ hSw_; (try dsimp only at hSw_); go_simp; (try with_reducible rfl)
            try simp only [Act.put, List.setIfInBounds_toArray, List.set_cons_zero, List.set_cons_succ]
            refine take_op 7 (some 28) (v := ?_) rfl rfl (by kernel_rfl) (by kernel_rfl) (by kernel_rfl) (fun _ _ _ h => h) (Or.inl ⟨by rfl, ?_⟩) (by assumption) ?_
            rotate_left
            · intro w_ hSw_; (try dsimp only at hSw_); go_simp; (try with_reducible rfl)
            try simp only [Act.put, List.setIfInBounds_toArray, List.set_cons_zero, List.set_cons_succ]
            refine take_op 8 (some 29) (v := ?_) rfl rfl (by kernel_rfl) (by kernel_rfl) (by kernel_rfl) (fun _ _ _ h => h) (Or.inl ⟨by rfl, ?_⟩) (by assumption) ?_
            rotate_left
            · intro w_ hSw_; (try dsimp only at hSw_); go_simp; (try with_reducible rfl)
            try simp only [Act.put, List.setIfInBounds_toArray, List.set_cons_zero, List.set_cons_succ]
            refine take_op 9 (some 30) (v := ?_) rfl rfl (by kernel_rfl) (by kernel_rfl) (by kernel_rfl) (fun _ _ _ h => h) (Or.inl ⟨by rfl, ?_⟩) (by assumption) ?_
            rotate_left
            · intro w_ hSw_; (try dsimp only at hSw_); go_simp; (try with_reducible rfl)
            try simp only [Act.put, List.setIfInBounds_toArray, List.set_cons_zero, List.set_cons_succ]
            refine take_op 10 (some 31) (v := ?_) rfl rfl (by kernel_rfl) (by kernel_rfl) (by kernel_rfl) (fun _ _ _ h => h) (Or.inl ⟨by rfl, ?_⟩) (by assumption) ?_
            rotate_left
            · intro w_ hSw_; (try dsimp only at hSw_); go_simp; (try with_reducible rfl)
            try simp only [Act.put, List.setIfInBounds_toArray, List.set_cons_zero, List.set_cons_succ]
            refine take_op 11 (some 32) (v := ?_) rfl rfl (by kernel_rfl) (by kernel_rfl) (by kernel_rfl) (fun _ _ _ h => h) (Or.inl ⟨by rfl, ?_⟩) (by assumption) ?_
            rotate_left
            · intro w_ hSw_; (try dsimp only at hSw_); go_simp; (try with_reducible rfl)
            try simp only [Act.put, List.setIfInBounds_toArray, List.set_cons_zero, List.set_cons_succ]
            refine take_op 12 (some 33) (v := ?_) rfl rfl (by kernel_rfl) (by kernel_rfl) (by kernel_rfl) (fun _ _ _ h => h) (Or.inl ⟨by rfl, ?_⟩) (by assumption) ?_
            rotate_left
            · intro w_ hSw_; (try dsimp only at hSw_); go_simp; (try with_reducible rfl)
            try simp only [Act.put, List.setIfInBounds_toArray, List.set_cons_zero, List.set_cons_succ]
            refine take_op 13 (some 34) (v := ?_) rfl rfl (by kernel_rfl) (by kernel_rfl) (by kernel_rfl) (fun _ _ _ h => h) (Or.inl ⟨by rfl, ?_⟩) (by assumption) ?_
            rotate_left
            · intro w_ hSw_; (try dsimp only at hSw_); go_simp; (try with_reducible rfl)
            try simp only [Act.put, List.setIfInBounds_toArray, List.set_cons_zero, List.set_cons_succ]
            refine take_op 14 (some 35) (v := ?_) rfl rfl (by kernel_rfl) (by kernel_rfl) (by kernel_rfl) (fun _ _ _ h => h) (Or.inl ⟨by rfl, ?_⟩) (by assumption) ?_
            rotate_left
            · intro w_ hSw_; (try dsimp only at hSw_); go_simp; (try with_reducible rfl)
            try simp only [Act.put, List.setIfInBounds_toArray, List.set_cons_zero, List.set_cons_succ]
            refine take_op 16 (some 37) (v := ?_) rfl rfl (by kernel_rfl) (by kernel_rfl) (by kernel_rfl) (fun _ _ _ h => h) (Or.inl ⟨by rfl, ?_⟩) (by assumption) ?_
            rotate_left
            · intro w_ hSw_; (try dsimp only at hSw_); go_simp; (try with_reducible rfl)
            try simp only [Act.put, List.setIfInBounds_toArray, List.set_cons_zero, List.set_cons_succ]
            refine take_op 17 (some 38) (v := ?_) rfl rfl (by kernel_rfl) (by kernel_rfl) (by kernel_rfl) (fun _ _ _ h => h) (Or.inl ⟨by rfl, ?_⟩) (by assumption) ?_
            rotate_left
            · intro w_ hSw_; (try dsimp only at hSw_); go_simp; (try with_reducible rfl)
            try simp only [Act.put, List.setIfInBounds_toArray, List.set_cons_zero, List.set_cons_succ]
            refine go_op 15 rfl (by kernel_rfl) (fun K_ hK_ => ?_)
            go_simp
            have hbz : Below wr.heap.size wr (wr.alloc (.cells #[.int .i64 x.principal, .int .i64 x.interest, .int .i64 x.fees] 2)).drew := ((Below.refl _ wr).alloc (Nat.le_refl _) _).drew
            have hkz : Blk (wr.alloc (.cells #[.int .i64 x.principal, .int .i64 x.interest, .int .i64 x.fees] 2)).drew wr.heap.size #[.int .i64 x.principal, .int .i64 x.interest, .int .i64 x.fees] 2 := (Blk.new wr _ _).drew
            revert hbz hkz
            generalize (wr.alloc _).drew = wz
            intro hbz hkz
            refine hK_.out _ _ ⟨(hbz.cell (p := ⟨be, oe + i * 13 + 1, none⟩) hbe).trans f1, (hbz.cell (p := ⟨be, oe + i * 13 + 2, none⟩) hbe).trans f2, (hbz.cell (p := ⟨be, oe + i * 13 + 4, none⟩) hbe).trans f4⟩ (fun hHeld_ => ?_)
            have z0 : wz.cell? ⟨wr.heap.size, 0, none⟩ = some (.int .i64 x.principal) := hkz.cell 0
            have z1 : wz.cell? ⟨wr.heap.size, 1, none⟩ = some (.int .i64 x.interest) := hkz.cell 1
            have z2 : wz.cell? ⟨wr.heap.size, 2, none⟩ = some (.int .i64 x.fees) := hkz.cell 2
            refine take_op 18 (some 39) (v := ?_) rfl rfl (by kernel_rfl) (by kernel_rfl) (by kernel_rfl) (fun _ _ _ h => h) (Or.inl ⟨by rfl, ?_⟩) (by assumption) ?_
            rotate_left
            · intro w_ hSw_; (try dsimp only at hSw_); go_simp; (try with_reducible rfl)
            try simp only [Act.put, List.setIfInBounds_toArray, List.set_cons_zero, List.set_cons_succ]
            refine go_op 19 rfl (by kernel_rfl) (fun K_ hK_ => ?_)
            go_simp
            refine hK_.out _ _ hHeld_ (fun hHeld_ => ?_)
            refine take_op 20 (some 6) (v := ?_) rfl rfl (by kernel_rfl) (by kernel_rfl) (by kernel_rfl) (fun _ _ _ h => h) (Or.inl ⟨by rfl, ?_⟩) (by assumption) ?_
            rotate_left
            · intro w_ hSw_; (try dsimp only at hSw_); go_simp; (try with_reducible rfl)
            try simp only [Act.put, List.setIfInBounds_toArray, List.set_cons_zero, List.set_cons_succ]
            refine wpAnyH_done (by kernel_rfl) ?_ _
            clear hHeld hHeld_ z0 z1 z2 hkz
            have HBZ := Lib.hid hbz
            go_wp2_with fail
            go_ret
            exact ⟨by rw [HV.out]; rfl, HBZ.out⟩
      · go_wp2_with fail
        go_roundw
        case rel =>
          refine ⟨i + 1, by omega, by go_num, rfl, ?_, by first | trivial | rfl⟩
          rw [List.take_add_one, HX.out]
          intro y hy
          rcases List.mem_append.1 hy with h9 | h9
          · exact HA.out y h9
          · simp at h9; subst h9; exact hid
        case measure => simp [intOf]; omega
    · have g1 : ¬ (i : Int) < (n : Int) := by omega
      have hin : n = i := by omega
      have hall : Hid (valF l id b = 0) := Lib.hid (valF_none (by
        have h9 := HA.out
        rwa [← hin, HN.out, List.take_length] at h9))
      clear hin
      go_wp2_with fail
      go_ret
      exact ⟨by rw [hall.out]; rfl, Below.refl _ _⟩
end Go.Proofs.Ytimiehnknehagaa
