import Derived.Test.YtimiehnknehagaaEntP
set_option linter.unusedSimpArgs false
set_option linter.unusedVariables false
namespace Go.Proofs.Ytimiehnknehagaa
open Go.RowKit
theorem sl_rent : Try.prog.underlying 32 = some (.slice 59) := by kernel_rfl
theorem rent_info : (Try.prog.info? 59).map (fun i => (i.zero, i.size, i.bytes)) = some (some (.agg #[.int .i64 0, .int .i64 0, .int .i64 0]), 3, 24) := by kernel_rfl
def OwnPost (l : List Ent) (w : World) (e : Ending) (w' : World) : Prop := ∃ v, e = .returned v ∧ w'.ownsRow w.heap.size 59 3 v l.length (l.flatMap encE) ∧ Below w.heap.size w w'
set_option maxHeartbeats 2000000 in
theorem own_any (va : Value) (l : List Ent) (hl : l.length ≤ 1000000) (w : World) (ha : RowsAt encE 3 w va l) : Calls Try.prog 10 #[va] w (OwnPost l w) := by
  obtain ⟨ad, c, rfl, h1, h2, hs⟩ := ha
  obtain ⟨n, hn⟩ : ∃ n, n = l.length := ⟨_, rfl⟩
  rw [← hn] at hl h1 h2 ⊢
  have HS := Lib.hid hs
  have HN := Lib.hid hn
  clear hs hn
  go_enter Try.func10, Try.ntmps10
  go_wp2_with fail
  go_loopw [3, 4] (fun x y wr => ∃ (i : Nat) (v : Value), i ≤ n ∧ y = .int .i64 i ∧ v = x ∧ wr.ownsRow w.heap.size 59 3 v i ((l.take i).flatMap encE) ∧ Below w.heap.size w wr) (fun _ y _ => n - (intOf y).toNat)
  case atStart => exact ⟨0, _, Nat.zero_le _, rfl, rfl, ⟨rfl, .inl ⟨rfl, rfl⟩⟩, Below.refl _ _⟩
  case round =>
    obtain ⟨i, v, hi, rfl, rfl, hO, hB⟩ := hrel
    have HO := Lib.hid hO
    have HB := Lib.hid hB
    clear hO hB
    by_cases hlt : i < n
    · have g1 : (i : Int) < (n : Int) := by omega
      obtain ⟨x, hx⟩ : ∃ x, l[i]? = some x := ⟨l[i]'(by have := HN.out; omega), List.getElem?_eq_getElem _⟩
      obtain ⟨be, oe, rfl, hbe, e0, e1, e2⟩ := encE_cell HS.out i x hx
      have hst : Hid (l.take (i + 1) = l.take i ++ [x]) := Lib.hid (by rw [List.take_add_one, hx]; rfl)
      obtain ⟨k1, k2, d⟩ := x
      dsimp only at e0 e1 e2
      have f0 := (HB.out.cell (p := ⟨be, oe + i * 3, none⟩) hbe).trans e0
      have f1 := (HB.out.cell (p := ⟨be, oe + i * 3 + 1, none⟩) hbe).trans e1
      have f2 := (HB.out.cell (p := ⟨be, oe + i * 3 + 2, none⟩) hbe).trans e2
      have HBE : Hid (be < w.heap.size) := Lib.hid hbe
      clear e0 e1 e2 hx
      go_wp2_with fail
      refine wp_region_held_drew (S := fun w' => w'.cell? ⟨be, oe + i * 3, none⟩ = some (.int .i64 k1) ∧ w'.cell? ⟨be, oe + i * 3 + 1, none⟩ = some (.int .i64 k2) ∧ w'.cell? ⟨be, oe + i * 3 + 2, none⟩ = some (.int .i64 d)) (by kernel_rfl) ⟨f0, f1, f2⟩ (fun hHeld => ?_)
      refine take_op 0 (some 11) (v := ?_) rfl rfl (by kernel_rfl) (by kernel_rfl) (by kernel_rfl) (fun _ _ _ h => h) (Or.inl ⟨by rfl, ?_⟩) (by assumption) ?_
      rotate_left
      · intro w_ hSw_; (try dsimp only at hSw_); go_simp; (try with_reducible rfl)
      try simp only [Act.put, List.setIfInBounds_toArray, List.set_cons_zero, List.set_cons_succ]
      refine take_op 1 (some 12) (v := ?_) rfl rfl (by kernel_rfl) (by kernel_rfl) (by kernel_rfl) (fun _ _ _ h => h) (Or.inl ⟨by rfl, ?_⟩) (by assumption) ?_
      rotate_left
      · intro w_ hSw_; (try dsimp only at hSw_); go_simp; (try with_reducible rfl)
      try simp only [Act.put, List.setIfInBounds_toArray, List.set_cons_zero, List.set_cons_succ]
      refine take_op 2 (some 13) (v := ?_) rfl rfl (by kernel_rfl) (by kernel_rfl) (by kernel_rfl) (fun _ _ _ h => h) (Or.inl ⟨by rfl, ?_⟩) (by assumption) ?_
      rotate_left
      · intro w_ hSw_; (try dsimp only at hSw_); go_simp; (try with_reducible rfl)
      try simp only [Act.put, List.setIfInBounds_toArray, List.set_cons_zero, List.set_cons_succ]
      refine take_op 3 (some 14) (v := ?_) rfl rfl (by kernel_rfl) (by kernel_rfl) (by kernel_rfl) (fun _ _ _ h => h) (Or.inl ⟨by rfl, ?_⟩) (by assumption) ?_
      rotate_left
      · intro w_ hSw_; (try dsimp only at hSw_); go_simp; (try with_reducible rfl)
      try simp only [Act.put, List.setIfInBounds_toArray, List.set_cons_zero, List.set_cons_succ]
      refine take_op 4 (some 15) (v := ?_) rfl rfl (by kernel_rfl) (by kernel_rfl) (by kernel_rfl) (fun _ _ _ h => h) (Or.inl ⟨by rfl, ?_⟩) (by assumption) ?_
      rotate_left
      · intro w_ hSw_; (try dsimp only at hSw_); go_simp; (try with_reducible rfl)
      try simp only [Act.put, List.setIfInBounds_toArray, List.set_cons_zero, List.set_cons_succ]
      refine take_op 5 (some 16) (v := ?_) rfl rfl (by kernel_rfl) (by kernel_rfl) (by kernel_rfl) (fun _ _ _ h => h) (Or.inl ⟨by rfl, ?_⟩) (by assumption) ?_
      rotate_left
      · intro w_ hSw_; (try dsimp only at hSw_); go_simp; (try with_reducible rfl)
      try simp only [Act.put, List.setIfInBounds_toArray, List.set_cons_zero, List.set_cons_succ]
      refine take_op 6 (some 17) (v := ?_) rfl rfl (by kernel_rfl) (by kernel_rfl) (by kernel_rfl) (fun _ _ _ h => h) (Or.inl ⟨by rfl, ?_⟩) (by assumption) ?_
      rotate_left
      · intro w_ hSw_; (try dsimp only at hSw_); go_simp; (try with_reducible rfl)
      try simp only [Act.put, List.setIfInBounds_toArray, List.set_cons_zero, List.set_cons_succ]
      refine take_op 7 (some 18) (v := ?_) rfl rfl (by kernel_rfl) (by kernel_rfl) (by kernel_rfl) (fun _ _ _ h => h) (Or.inl ⟨by rfl, ?_⟩) (by assumption) ?_
      rotate_left
      · intro w_ hSw_; (try dsimp only at hSw_); go_simp; (try with_reducible rfl)
      try simp only [Act.put, List.setIfInBounds_toArray, List.set_cons_zero, List.set_cons_succ]
      refine take_op 8 (some 19) (v := ?_) rfl rfl (by kernel_rfl) (by kernel_rfl) (by kernel_rfl) (fun _ _ _ h => h) (Or.inl ⟨by rfl, ?_⟩) (by assumption) ?_
      rotate_left
      · intro w_ hSw_; (try dsimp only at hSw_); go_simp; (try with_reducible rfl)
      try simp only [Act.put, List.setIfInBounds_toArray, List.set_cons_zero, List.set_cons_succ]
      refine take_op 9 (some 20) (v := ?_) rfl rfl (by kernel_rfl) (by kernel_rfl) (by kernel_rfl) (fun _ _ _ h => h) (Or.inl ⟨by rfl, ?_⟩) (by assumption) ?_
      rotate_left
      · intro w_ hSw_; (try dsimp only at hSw_); go_simp; (try with_reducible rfl)
      try simp only [Act.put, List.setIfInBounds_toArray, List.set_cons_zero, List.set_cons_succ]
      refine take_op 10 (some 21) (v := ?_) rfl rfl (by kernel_rfl) (by kernel_rfl) (by kernel_rfl) (fun _ _ _ h => h) (Or.inl ⟨by rfl, ?_⟩) (by assumption) ?_
      rotate_left
      · intro w_ hSw_; (try dsimp only at hSw_); go_simp; (try with_reducible rfl)
      try simp only [Act.put, List.setIfInBounds_toArray, List.set_cons_zero, List.set_cons_succ]
      refine take_op 11 (some 22) (v := ?_) rfl rfl (by kernel_rfl) (by kernel_rfl) (by kernel_rfl) (fun _ _ _ h => h) (Or.inl ⟨by rfl, ?_⟩) (by assumption) ?_
      rotate_left
      · intro w_ hSw_; (try dsimp only at hSw_); go_simp; (try with_reducible rfl)
      try simp only [Act.put, List.setIfInBounds_toArray, List.set_cons_zero, List.set_cons_succ]
      refine take_op 12 (some 23) (v := ?_) rfl rfl (by kernel_rfl) (by kernel_rfl) (by kernel_rfl) (fun _ _ _ h => h) (Or.inl ⟨by rfl, ?_⟩) (by assumption) ?_
      rotate_left
      · intro w_ hSw_; (try dsimp only at hSw_); go_simp; (try with_reducible rfl)
      try simp only [Act.put, List.setIfInBounds_toArray, List.set_cons_zero, List.set_cons_succ]
      refine take_op 13 (some 24) (v := ?_) rfl rfl (by kernel_rfl) (by kernel_rfl) (by kernel_rfl) (fun _ _ _ h => h) (Or.inl ⟨by rfl, ?_⟩) (by assumption) ?_
      rotate_left
      · intro w_ hSw_; (try dsimp only at hSw_); go_simp; (try with_reducible rfl)
      try simp only [Act.put, List.setIfInBounds_toArray, List.set_cons_zero, List.set_cons_succ]
      refine take_op 14 (some 25) (v := ?_) rfl rfl (by kernel_rfl) (by kernel_rfl) (by kernel_rfl) (fun _ _ _ h => h) (Or.inl ⟨by rfl, ?_⟩) (by assumption) ?_
      rotate_left
      · intro w_ hSw_; (try dsimp only at hSw_); go_simp; (try with_reducible rfl)
      try simp only [Act.put, List.setIfInBounds_toArray, List.set_cons_zero, List.set_cons_succ]
      refine take_op 15 (some 26) (v := ?_) rfl rfl (by kernel_rfl) (by kernel_rfl) (by kernel_rfl) (fun _ _ _ h => h) (Or.inl ⟨by rfl, ?_⟩) (by assumption) ?_
      rotate_left
      · intro w_ hSw_; (try dsimp only at hSw_); go_simp; (try with_reducible rfl)
      try simp only [Act.put, List.setIfInBounds_toArray, List.set_cons_zero, List.set_cons_succ]
      refine take_op 16 (some 27) (v := ?_) rfl rfl (by kernel_rfl) (by kernel_rfl) (by kernel_rfl) (fun _ _ _ h => h) (Or.inl ⟨by rfl, ?_⟩) (by assumption) ?_
      rotate_left
      · intro w_ hSw_; (try dsimp only at hSw_); go_simp; (try with_reducible rfl)
      try simp only [Act.put, List.setIfInBounds_toArray, List.set_cons_zero, List.set_cons_succ]
      refine go_op 17 rfl (by kernel_rfl) (fun K_ hK_ => ?_)
      go_simp
      have hb4 : Below wr.heap.size wr (wr.alloc (.cells #[.int .i64 k1, .int .i64 k2, .int .i64 d] 59)).drew := ((Below.refl _ wr).alloc (Nat.le_refl _) _).drew
      have hk4 : Blk (wr.alloc (.cells #[.int .i64 k1, .int .i64 k2, .int .i64 d] 59)).drew wr.heap.size #[.int .i64 k1, .int .i64 k2, .int .i64 d] 59 := (Blk.new _ _ _).drew
      revert hb4 hk4
      generalize (wr.alloc (.cells #[.int .i64 k1, .int .i64 k2, .int .i64 d] 59)).drew = w4
      intro hb4 hk4
      have HO4 := Lib.hid (owns_below HO.out hb4 (Nat.le_refl _))
      have HB4 := Lib.hid (HB.out.trans (hb4.mono HB.out.size))
      have hbw := HB.out.size
      have hbe9 := HBE.out
      have hH4 : ∀ q, w4.cell? ⟨be, q, none⟩ = wr.cell? ⟨be, q, none⟩ := fun q => hb4.cell (p := ⟨be, q, none⟩) (by show be < wr.heap.size; omega)
      refine hK_.out _ _ ⟨(hH4 _).trans f0, (hH4 _).trans f1, (hH4 _).trans f2⟩ (fun hHeld_ => ?_)
      refine go_op 18 rfl (by kernel_rfl) (fun K_ hK_ => ?_)
      refine step_appRows sl_rent rent_info rfl (by decide) encE_len encE_one (by decide) rfl rfl rfl w.heap.size v i (l.take i) [(k1, k2, d)] (some ⟨wr.heap.size, 0, none⟩) 1 1 rfl HO4.out (SrcAt.one hk4 rfl) (by omega) HB4.out.size rfl rfl ?_
      intro v5 w5 ho5 hg5 hv5
      have hbl := owns_block HO4.out
      have hB5 := HB4.out.trans (below_grown hg5 HB4.out.size (fun k hk => hbl k hk))
      have hq : ∀ q, w5.cell? ⟨be, q, none⟩ = wr.cell? ⟨be, q, none⟩ := fun q => (World.cell?_of_block (hg5.block be (by have := hb4.size; omega) (fun e => by have := hbl be e.symm; omega))).trans (hH4 q)
      have HO5 := Lib.hid ho5
      have HB5 := Lib.hid hB5
      try simp only [Act.put, List.setIfInBounds_toArray, List.set_cons_zero, List.set_cons_succ]
      refine hK_.out _ _ ⟨(hq _).trans f0, (hq _).trans f1, (hq _).trans f2⟩ (fun hHeld_ => ?_)
      refine take_op 19 (some 3) (v := ?_) rfl rfl (by kernel_rfl) (by kernel_rfl) (by kernel_rfl) (fun _ _ _ h => h) (Or.inl ⟨by rfl, ?_⟩) (by assumption) ?_
      rotate_left
      · intro w_ hSw_; (try dsimp only at hSw_); go_simp; (try with_reducible rfl)
      try simp only [Act.put, List.setIfInBounds_toArray, List.set_cons_zero, List.set_cons_succ]
      refine wpAnyH_done (by kernel_rfl) ?_ _
      clear hHeld hHeld_ hq hH4 f0 f1 f2 hb4 hk4 ho5 hg5 hv5 hB5 hbl
      go_wp2_with fail
      go_roundw
      case rel => exact ⟨i + 1, v5, by omega, by go_num, rfl, by rw [hst.out]; exact HO5.out, HB5.out⟩
      case measure => simp [intOf]; omega
    · have g1 : ¬ (i : Int) < (n : Int) := by omega
      have hin : i = n := by omega
      subst hin
      go_wp2_with fail
      go_ret
      have hall : l.take i = l := by rw [HN.out]; exact List.take_length
      have ho9 := HO.out
      rw [hall] at ho9
      exact ⟨_, rfl, by rw [← HN.out]; exact ho9, HB.out⟩
/-- Of: a bucket's first entry. -/
def ofL (l : List Ent) (a b : Int) : Int := match l.find? (fun x => x.1 == a && x.2.1 == b) with | none => 0 | some x => x.2.2
theorem ofL_step {l : List Ent} {a b : Int} {i : Nat} {x : Ent} (hx : l[i]? = some x) (h : ∀ (j : Nat) y, j < i → l[j]? = some y → ¬ (y.1 = a ∧ y.2.1 = b)) (hxy : x.1 = a ∧ x.2.1 = b) : ofL l a b = x.2.2 := by
  unfold ofL
  have : l.find? (fun x => x.1 == a && x.2.1 == b) = some x := by
    rw [List.find?_eq_some_iff_getElem]
    obtain ⟨hl, he⟩ := List.getElem?_eq_some_iff.1 hx
    refine ⟨by simp [hxy.1, hxy.2], i, hl, he, fun j hj => ?_⟩
    have := h j l[j] hj (List.getElem?_eq_getElem _)
    simp only [Bool.not_eq_true', Bool.and_eq_false_iff, beq_eq_false_iff_ne]
    by_cases h1 : l[j].1 = a
    · right; intro h2; exact this ⟨h1, h2⟩
    · exact .inl h1
  rw [this]
theorem ofL_none {l : List Ent} {a b : Int} (h : ∀ (j : Nat) y, l[j]? = some y → ¬ (y.1 = a ∧ y.2.1 = b)) : ofL l a b = 0 := by
  unfold ofL
  have : l.find? (fun x => x.1 == a && x.2.1 == b) = none := by
    rw [List.find?_eq_none]
    intro x hx
    obtain ⟨j, hj⟩ := List.getElem?_of_mem hx
    have := h j x hj
    simp only [Bool.and_eq_true, beq_iff_eq]
    exact this
  rw [this]
set_option maxHeartbeats 2000000 in
theorem of1_any (x1 x2 x3 a b : Int) (b1 b2 : Nat) (w : World) (h1 : w.cell? ⟨b1, 0, none⟩ = some (.int .i64 a)) (h2 : w.cell? ⟨b2, 0, none⟩ = some (.int .i64 b)) :
    Calls Try.prog 33 #[.agg #[.int .i64 x1, .int .i64 x2, .int .i64 x3], .pointer (some ⟨b1, 0, none⟩), .pointer (some ⟨b2, 0, none⟩)] w fun e w' => e = .returned (.bool (decide (x1 = a ∧ x2 = b))) ∧ Below w.heap.size w w' := by
  have l1 := World.block_lt_of_cell? w ⟨b1, 0, none⟩ h1
  have l2 := World.block_lt_of_cell? w ⟨b2, 0, none⟩ h2
  have hb : Below w.heap.size w (w.alloc (.cells #[.int .i64 x1, .int .i64 x2, .int .i64 x3] 52)) := (Below.refl _ _).alloc (Nat.le_refl _) _
  have k1 := (hb.cell (p := ⟨b1, 0, none⟩) l1).trans h1
  have k2 := (hb.cell (p := ⟨b2, 0, none⟩) l2).trans h2
  have HB := Lib.hid hb
  clear hb h1 h2
  by_cases hx : x1 = a
  · subst hx
    by_cases hy : x2 = b
    · subst hy
      go_enter Try.func33, Try.ntmps33
      go_wp2_with fail
      go_ret
      exact ⟨by simp, HB.out⟩
    · go_enter Try.func33, Try.ntmps33
      go_wp2_with fail
      go_ret
      exact ⟨by simp [hy], HB.out⟩
  · go_enter Try.func33, Try.ntmps33
    go_wp2_with fail
    go_ret
    exact ⟨by simp [hx], HB.out⟩
end Go.Proofs.Ytimiehnknehagaa
