import Derived.Test.YtimiehnknehagaaDiffP
set_option linter.unusedSimpArgs false
set_option linter.unusedVariables false
namespace Go.Proofs.Ytimiehnknehagaa
open Go.RowKit
theorem take_eq_succ {α : Type} {la lb : List α} {i : Nat} {x y : α} (h : la.take i = lb.take i) (hx : la[i]? = some x) (hy : lb[i]? = some y) : la.take (i + 1) = lb.take (i + 1) ↔ x = y := by
  rw [List.take_add_one, List.take_add_one, h, hx, hy]
  constructor
  · intro e
    have := List.append_cancel_left e
    simpa using this
  · rintro rfl; rfl
set_option maxHeartbeats 2000000 in
theorem alike_any (va vb : Value) (la lb : List Ent) (w : World) (ha : RowsAt encE 3 w va la) (hb : RowsAt encE 3 w vb lb) :
    Calls Try.prog 9 #[va, vb] w fun e w' => e = .returned (.bool (decide (la = lb))) ∧ Below w.heap.size w w' := by
  obtain ⟨ada, ca, rfl, ha1, ha2, has⟩ := ha
  obtain ⟨adb, cb, rfl, hb1, hb2, hbs⟩ := hb
  by_cases hn : la.length = lb.length
  · obtain ⟨n, hna⟩ : ∃ n, n = la.length := ⟨_, rfl⟩
    have hnb : n = lb.length := hna.trans hn
    rw [← hna] at ha1 ha2 ⊢
    rw [← hnb] at hb1 hb2 ⊢
    have HA := Lib.hid has
    have HB := Lib.hid hbs
    have HNA := Lib.hid hna
    have HNB := Lib.hid hnb
    clear hn hna hnb has hbs
    go_enter Try.func9, Try.ntmps9
    go_wp2_with fail
    go_loopw [5] (fun x wr => ∃ i : Nat, i ≤ n ∧ x = .int .i64 i ∧ la.take i = lb.take i ∧ Below w.heap.size w wr) (fun x _ => n - (intOf x).toNat)
    case atStart => exact ⟨0, Nat.zero_le _, rfl, rfl, Below.refl _ _⟩
    case round =>
      obtain ⟨i, hi, rfl, hq, hB⟩ := hrel
      have HQ := Lib.hid hq
      have HBE := Lib.hid hB
      clear hq hB
      by_cases hlt : i < n
      · have g1 : (i : Int) < (n : Int) := by omega
        obtain ⟨x, hx⟩ : ∃ x, la[i]? = some x := ⟨la[i]'(by have := HNA.out; omega), List.getElem?_eq_getElem _⟩
        obtain ⟨y, hy⟩ : ∃ y, lb[i]? = some y := ⟨lb[i]'(by have := HNB.out; omega), List.getElem?_eq_getElem _⟩
        have HS := Lib.hid (take_eq_succ HQ.out hx hy)
        obtain ⟨ba, oa, rfl, hba, p0, p1, p2⟩ := encE_cell HA.out i x hx
        obtain ⟨bb, ob, rfl, hbb, q0, q1, q2⟩ := encE_cell HB.out i y hy
        obtain ⟨x1, x2, x3⟩ := x
        obtain ⟨y1, y2, y3⟩ := y
        dsimp only at p0 p1 p2 q0 q1 q2
        have e0 := (HBE.out.cell (p := ⟨ba, oa + i * 3, none⟩) hba).trans p0
        have e1 := (HBE.out.cell (p := ⟨ba, oa + i * 3 + 1, none⟩) hba).trans p1
        have e2 := (HBE.out.cell (p := ⟨ba, oa + i * 3 + 2, none⟩) hba).trans p2
        have f0 := (HBE.out.cell (p := ⟨bb, ob + i * 3, none⟩) hbb).trans q0
        have f1 := (HBE.out.cell (p := ⟨bb, ob + i * 3 + 1, none⟩) hbb).trans q1
        have f2 := (HBE.out.cell (p := ⟨bb, ob + i * 3 + 2, none⟩) hbb).trans q2
        clear p0 p1 p2 q0 q1 q2 hx hy
        go_wp2_with fail
        refine wp_region_held_drew (S := fun w' => w'.cell? ⟨ba, oa + i * 3, none⟩ = some (.int .i64 x1) ∧ w'.cell? ⟨ba, oa + i * 3 + 1, none⟩ = some (.int .i64 x2) ∧ w'.cell? ⟨ba, oa + i * 3 + 2, none⟩ = some (.int .i64 x3) ∧ w'.cell? ⟨bb, ob + i * 3, none⟩ = some (.int .i64 y1) ∧ w'.cell? ⟨bb, ob + i * 3 + 1, none⟩ = some (.int .i64 y2) ∧ w'.cell? ⟨bb, ob + i * 3 + 2, none⟩ = some (.int .i64 y3)) (by kernel_rfl) ⟨e0, e1, e2, f0, f1, f2⟩ (fun hHeld => ?_)
        refine take_op 0 (some 17) (v := ?_) rfl rfl (by kernel_rfl) (by kernel_rfl) (by kernel_rfl) (fun _ _ _ h => h) (Or.inl ⟨by rfl, ?_⟩) (by assumption) ?_
        rotate_left
        · intro w_ hSw_; (try dsimp only at hSw_); go_simp; (try with_reducible rfl)
        try simp only [Act.put, List.setIfInBounds_toArray, List.set_cons_zero, List.set_cons_succ]
        refine take_op 1 (some 18) (v := ?_) rfl rfl (by kernel_rfl) (by kernel_rfl) (by kernel_rfl) (fun _ _ _ h => h) (Or.inl ⟨by rfl, ?_⟩) (by assumption) ?_
        rotate_left
        · intro w_ hSw_; (try dsimp only at hSw_); go_simp; (try with_reducible rfl)
        try simp only [Act.put, List.setIfInBounds_toArray, List.set_cons_zero, List.set_cons_succ]
        refine take_op 2 (some 19) (v := ?_) rfl rfl (by kernel_rfl) (by kernel_rfl) (by kernel_rfl) (fun _ _ _ h => h) (Or.inl ⟨by rfl, ?_⟩) (by assumption) ?_
        rotate_left
        · intro w_ hSw_; (try dsimp only at hSw_); go_simp; (try with_reducible rfl)
        try simp only [Act.put, List.setIfInBounds_toArray, List.set_cons_zero, List.set_cons_succ]
        refine take_op 3 (some 20) (v := ?_) rfl rfl (by kernel_rfl) (by kernel_rfl) (by kernel_rfl) (fun _ _ _ h => h) (Or.inl ⟨by rfl, ?_⟩) (by assumption) ?_
        rotate_left
        · intro w_ hSw_; (try dsimp only at hSw_); go_simp; (try with_reducible rfl)
        try simp only [Act.put, List.setIfInBounds_toArray, List.set_cons_zero, List.set_cons_succ]
        refine take_op 4 (some 21) (v := ?_) rfl rfl (by kernel_rfl) (by kernel_rfl) (by kernel_rfl) (fun _ _ _ h => h) (Or.inl ⟨by rfl, ?_⟩) (by assumption) ?_
        rotate_left
        · intro w_ hSw_; (try dsimp only at hSw_); go_simp; (try with_reducible rfl)
        try simp only [Act.put, List.setIfInBounds_toArray, List.set_cons_zero, List.set_cons_succ]
        refine take_op 5 (some 22) (v := ?_) rfl rfl (by kernel_rfl) (by kernel_rfl) (by kernel_rfl) (fun _ _ _ h => h) (Or.inl ⟨by rfl, ?_⟩) (by assumption) ?_
        rotate_left
        · intro w_ hSw_; (try dsimp only at hSw_); go_simp; (try with_reducible rfl)
        try simp only [Act.put, List.setIfInBounds_toArray, List.set_cons_zero, List.set_cons_succ]
        refine take_op 6 (some 23) (v := ?_) rfl rfl (by kernel_rfl) (by kernel_rfl) (by kernel_rfl) (fun _ _ _ h => h) (Or.inl ⟨by rfl, ?_⟩) (by assumption) ?_
        rotate_left
        · intro w_ hSw_; (try dsimp only at hSw_); go_simp; (try with_reducible rfl)
        try simp only [Act.put, List.setIfInBounds_toArray, List.set_cons_zero, List.set_cons_succ]
        refine take_op 7 (some 24) (v := ?_) rfl rfl (by kernel_rfl) (by kernel_rfl) (by kernel_rfl) (fun _ _ _ h => h) (Or.inl ⟨by rfl, ?_⟩) (by assumption) ?_
        rotate_left
        · intro w_ hSw_; (try dsimp only at hSw_); go_simp; (try with_reducible rfl)
        try simp only [Act.put, List.setIfInBounds_toArray, List.set_cons_zero, List.set_cons_succ]
        by_cases h1 : x1 = y1
        · subst h1
          by_cases h2 : x2 = y2
          · subst h2
            by_cases h3 : x3 = y3
            · subst h3
              refine take_op 8 (some 25) (v := ?_) rfl rfl (by kernel_rfl) (by kernel_rfl) (by kernel_rfl) (fun _ _ _ h => h) (Or.inl ⟨by rfl, ?_⟩) (by assumption) ?_
              rotate_left
              · intro w_ hSw_; (try dsimp only at hSw_); go_simp; (try with_reducible rfl)
              try simp only [Act.put, List.setIfInBounds_toArray, List.set_cons_zero, List.set_cons_succ]
              refine wpAnyH_done (by kernel_rfl) ?_ _
              clear hHeld e0 e1 e2 f0 f1 f2
              go_wp2_with fail
              go_roundw
              case rel => exact ⟨i + 1, by omega, by go_num, HS.out.2 rfl, HBE.out.drew⟩
              case measure => simp [intOf]; omega
            · have hne : Hid (decide (la = lb) = false) := Lib.hid (decide_eq_false (fun e => by subst e; have := HS.out.1 rfl; injection this with _ e2; injection e2 with _ e3; exact h3 e3))
              refine take_op 8 (some 25) (v := ?_) rfl rfl (by kernel_rfl) (by kernel_rfl) (by kernel_rfl) (fun _ _ _ h => h) (Or.inl ⟨by rfl, ?_⟩) (by assumption) ?_
              rotate_left
              · intro w_ hSw_; (try dsimp only at hSw_); go_simp; (try with_reducible rfl)
              try simp only [Act.put, List.setIfInBounds_toArray, List.set_cons_zero, List.set_cons_succ]
              refine wpAnyH_done (by kernel_rfl) ?_ _
              clear hHeld e0 e1 e2 f0 f1 f2
              go_wp2_with fail
              go_ret
              rw [hne.out]
              exact ⟨rfl, HBE.out.drew⟩
          · have hne : Hid (decide (la = lb) = false) := Lib.hid (decide_eq_false (fun e => by subst e; have := HS.out.1 rfl; injection this with _ e2; injection e2 with e3 _; exact h2 e3))
            refine take_op 8 (some 25) (v := ?_) rfl rfl (by kernel_rfl) (by kernel_rfl) (by kernel_rfl) (fun _ _ _ h => h) (Or.inl ⟨by rfl, ?_⟩) (by assumption) ?_
            rotate_left
            · intro w_ hSw_; (try dsimp only at hSw_); go_simp; (try with_reducible rfl)
            try simp only [Act.put, List.setIfInBounds_toArray, List.set_cons_zero, List.set_cons_succ]
            refine wpAnyH_done (by kernel_rfl) ?_ _
            clear hHeld e0 e1 e2 f0 f1 f2
            go_wp2_with fail
            go_ret
            rw [hne.out]
            exact ⟨rfl, HBE.out.drew⟩
        · have hne : Hid (decide (la = lb) = false) := Lib.hid (decide_eq_false (fun e => by subst e; have := HS.out.1 rfl; injection this with e3 _; exact h1 e3))
          refine take_op 8 (some 25) (v := ?_) rfl rfl (by kernel_rfl) (by kernel_rfl) (by kernel_rfl) (fun _ _ _ h => h) (Or.inl ⟨by rfl, ?_⟩) (by assumption) ?_
          rotate_left
          · intro w_ hSw_; (try dsimp only at hSw_); go_simp; (try with_reducible rfl)
          try simp only [Act.put, List.setIfInBounds_toArray, List.set_cons_zero, List.set_cons_succ]
          refine wpAnyH_done (by kernel_rfl) ?_ _
          clear hHeld e0 e1 e2 f0 f1 f2
          go_wp2_with fail
          go_ret
          rw [hne.out]
          exact ⟨rfl, HBE.out.drew⟩
      · have g1 : ¬ (i : Int) < (n : Int) := by omega
        have hin : i = n := by omega
        subst hin
        have hall : decide (la = lb) = true := by
          have h1 := HQ.out
          rw [List.take_of_length_le (by rw [← HNA.out]; exact Nat.le_refl _), List.take_of_length_le (by rw [← HNB.out]; exact Nat.le_refl _)] at h1
          simpa using h1
        have HALL := Lib.hid hall
        clear hall
        go_wp2_with fail
        go_ret
        rw [HALL.out]
        exact ⟨rfl, HBE.out⟩
  · have hne : decide (la = lb) = false := by
      have : ¬ la = lb := fun e => hn (by rw [e])
      simpa using this
    rw [hne]
    have hn' : ¬ (la.length : Int) = (lb.length : Int) := by omega
    have hn2 : ((la.length : Int) != (lb.length : Int)) = true := by simpa using hn'
    clear hne has hbs
    go_enter Try.func9, Try.ntmps9
    go_wp2_with fail
    go_ret
    exact ⟨rfl, Below.refl _ _⟩
set_option maxHeartbeats 2000000 in
theorem equal_any (va vb : Value) (la lb : List Ent) (w : World) (ha : RowsAt encE 3 w va la) (hb : RowsAt encE 3 w vb lb) :
    Calls Try.prog 30 #[va, vb] w fun e w' => e = .returned (.bool (decide (la = lb))) ∧ Below w.heap.size w w' := by
  obtain ⟨ada, ca, rfl, ha1, ha2, has⟩ := ha
  obtain ⟨adb, cb, rfl, hb1, hb2, hbs⟩ := hb
  by_cases hn : la.length = lb.length
  · obtain ⟨n, hna⟩ : ∃ n, n = la.length := ⟨_, rfl⟩
    have hnb : n = lb.length := hna.trans hn
    rw [← hna] at ha1 ha2 ⊢
    rw [← hnb] at hb1 hb2 ⊢
    have HA := Lib.hid has
    have HB := Lib.hid hbs
    have HNA := Lib.hid hna
    have HNB := Lib.hid hnb
    clear hn hna hnb has hbs
    go_enter Try.func30, Try.ntmps30
    go_wp2_with fail
    go_loopw [13] (fun x wr => ∃ i : Nat, i ≤ n ∧ x = .int .i64 i ∧ la.take i = lb.take i ∧ Below w.heap.size w wr) (fun x _ => n - (intOf x).toNat)
    case atStart => exact ⟨0, Nat.zero_le _, rfl, rfl, Below.refl _ _⟩
    case round =>
      obtain ⟨i, hi, rfl, hq, hB⟩ := hrel
      have HQ := Lib.hid hq
      have HBE := Lib.hid hB
      clear hq hB
      by_cases hlt : i < n
      · have g1 : (i : Int) < (n : Int) := by omega
        obtain ⟨x, hx⟩ : ∃ x, la[i]? = some x := ⟨la[i]'(by have := HNA.out; omega), List.getElem?_eq_getElem _⟩
        obtain ⟨y, hy⟩ : ∃ y, lb[i]? = some y := ⟨lb[i]'(by have := HNB.out; omega), List.getElem?_eq_getElem _⟩
        have HS := Lib.hid (take_eq_succ HQ.out hx hy)
        obtain ⟨ba, oa, rfl, hba, p0, p1, p2⟩ := encE_cell HA.out i x hx
        obtain ⟨bb, ob, rfl, hbb, q0, q1, q2⟩ := encE_cell HB.out i y hy
        obtain ⟨x1, x2, x3⟩ := x
        obtain ⟨y1, y2, y3⟩ := y
        dsimp only at p0 p1 p2 q0 q1 q2
        have e0 := (HBE.out.cell (p := ⟨ba, oa + i * 3, none⟩) hba).trans p0
        have e1 := (HBE.out.cell (p := ⟨ba, oa + i * 3 + 1, none⟩) hba).trans p1
        have e2 := (HBE.out.cell (p := ⟨ba, oa + i * 3 + 2, none⟩) hba).trans p2
        have f0 := (HBE.out.cell (p := ⟨bb, ob + i * 3, none⟩) hbb).trans q0
        have f1 := (HBE.out.cell (p := ⟨bb, ob + i * 3 + 1, none⟩) hbb).trans q1
        have f2 := (HBE.out.cell (p := ⟨bb, ob + i * 3 + 2, none⟩) hbb).trans q2
        clear p0 p1 p2 q0 q1 q2 hx hy
        go_wp2_with fail
        refine wp_region_held_drew (S := fun w' => w'.cell? ⟨ba, oa + i * 3, none⟩ = some (.int .i64 x1) ∧ w'.cell? ⟨ba, oa + i * 3 + 1, none⟩ = some (.int .i64 x2) ∧ w'.cell? ⟨ba, oa + i * 3 + 2, none⟩ = some (.int .i64 x3) ∧ w'.cell? ⟨bb, ob + i * 3, none⟩ = some (.int .i64 y1) ∧ w'.cell? ⟨bb, ob + i * 3 + 1, none⟩ = some (.int .i64 y2) ∧ w'.cell? ⟨bb, ob + i * 3 + 2, none⟩ = some (.int .i64 y3)) (by kernel_rfl) ⟨e0, e1, e2, f0, f1, f2⟩ (fun hHeld => ?_)
        refine take_op 0 (some 16) (v := ?_) rfl rfl (by kernel_rfl) (by kernel_rfl) (by kernel_rfl) (fun _ _ _ h => h) (Or.inl ⟨by rfl, ?_⟩) (by assumption) ?_
        rotate_left
        · intro w_ hSw_; (try dsimp only at hSw_); go_simp; (try with_reducible rfl)
        try simp only [Act.put, List.setIfInBounds_toArray, List.set_cons_zero, List.set_cons_succ]
        refine take_op 1 (some 17) (v := ?_) rfl rfl (by kernel_rfl) (by kernel_rfl) (by kernel_rfl) (fun _ _ _ h => h) (Or.inl ⟨by rfl, ?_⟩) (by assumption) ?_
        rotate_left
        · intro w_ hSw_; (try dsimp only at hSw_); go_simp; (try with_reducible rfl)
        try simp only [Act.put, List.setIfInBounds_toArray, List.set_cons_zero, List.set_cons_succ]
        refine take_op 2 (some 18) (v := ?_) rfl rfl (by kernel_rfl) (by kernel_rfl) (by kernel_rfl) (fun _ _ _ h => h) (Or.inl ⟨by rfl, ?_⟩) (by assumption) ?_
        rotate_left
        · intro w_ hSw_; (try dsimp only at hSw_); go_simp; (try with_reducible rfl)
        try simp only [Act.put, List.setIfInBounds_toArray, List.set_cons_zero, List.set_cons_succ]
        refine take_op 3 (some 19) (v := ?_) rfl rfl (by kernel_rfl) (by kernel_rfl) (by kernel_rfl) (fun _ _ _ h => h) (Or.inl ⟨by rfl, ?_⟩) (by assumption) ?_
        rotate_left
        · intro w_ hSw_; (try dsimp only at hSw_); go_simp; (try with_reducible rfl)
        try simp only [Act.put, List.setIfInBounds_toArray, List.set_cons_zero, List.set_cons_succ]
        refine take_op 4 (some 20) (v := ?_) rfl rfl (by kernel_rfl) (by kernel_rfl) (by kernel_rfl) (fun _ _ _ h => h) (Or.inl ⟨by rfl, ?_⟩) (by assumption) ?_
        rotate_left
        · intro w_ hSw_; (try dsimp only at hSw_); go_simp; (try with_reducible rfl)
        try simp only [Act.put, List.setIfInBounds_toArray, List.set_cons_zero, List.set_cons_succ]
        refine take_op 5 (some 21) (v := ?_) rfl rfl (by kernel_rfl) (by kernel_rfl) (by kernel_rfl) (fun _ _ _ h => h) (Or.inl ⟨by rfl, ?_⟩) (by assumption) ?_
        rotate_left
        · intro w_ hSw_; (try dsimp only at hSw_); go_simp; (try with_reducible rfl)
        try simp only [Act.put, List.setIfInBounds_toArray, List.set_cons_zero, List.set_cons_succ]
        refine take_op 6 (some 22) (v := ?_) rfl rfl (by kernel_rfl) (by kernel_rfl) (by kernel_rfl) (fun _ _ _ h => h) (Or.inl ⟨by rfl, ?_⟩) (by assumption) ?_
        rotate_left
        · intro w_ hSw_; (try dsimp only at hSw_); go_simp; (try with_reducible rfl)
        try simp only [Act.put, List.setIfInBounds_toArray, List.set_cons_zero, List.set_cons_succ]
        refine take_op 7 (some 23) (v := ?_) rfl rfl (by kernel_rfl) (by kernel_rfl) (by kernel_rfl) (fun _ _ _ h => h) (Or.inl ⟨by rfl, ?_⟩) (by assumption) ?_
        rotate_left
        · intro w_ hSw_; (try dsimp only at hSw_); go_simp; (try with_reducible rfl)
        try simp only [Act.put, List.setIfInBounds_toArray, List.set_cons_zero, List.set_cons_succ]
        by_cases h1 : x1 = y1
        · subst h1
          by_cases h2 : x2 = y2
          · subst h2
            by_cases h3 : x3 = y3
            · subst h3
              refine take_op 8 (some 24) (v := ?_) rfl rfl (by kernel_rfl) (by kernel_rfl) (by kernel_rfl) (fun _ _ _ h => h) (Or.inl ⟨by rfl, ?_⟩) (by assumption) ?_
              rotate_left
              · intro w_ hSw_; (try dsimp only at hSw_); go_simp; (try with_reducible rfl)
              try simp only [Act.put, List.setIfInBounds_toArray, List.set_cons_zero, List.set_cons_succ]
              refine wpAnyH_done (by kernel_rfl) ?_ _
              clear hHeld e0 e1 e2 f0 f1 f2
              go_wp2_with fail
              go_roundw
              case rel => exact ⟨i + 1, by omega, by go_num, HS.out.2 rfl, HBE.out.drew⟩
              case measure => simp [intOf]; omega
            · have hne : Hid (decide (la = lb) = false) := Lib.hid (decide_eq_false (fun e => by subst e; have := HS.out.1 rfl; injection this with _ e2; injection e2 with _ e3; exact h3 e3))
              refine take_op 8 (some 24) (v := ?_) rfl rfl (by kernel_rfl) (by kernel_rfl) (by kernel_rfl) (fun _ _ _ h => h) (Or.inl ⟨by rfl, ?_⟩) (by assumption) ?_
              rotate_left
              · intro w_ hSw_; (try dsimp only at hSw_); go_simp; (try with_reducible rfl)
              try simp only [Act.put, List.setIfInBounds_toArray, List.set_cons_zero, List.set_cons_succ]
              refine wpAnyH_done (by kernel_rfl) ?_ _
              clear hHeld e0 e1 e2 f0 f1 f2
              go_wp2_with fail
              go_ret
              rw [hne.out]
              exact ⟨rfl, HBE.out.drew⟩
          · have hne : Hid (decide (la = lb) = false) := Lib.hid (decide_eq_false (fun e => by subst e; have := HS.out.1 rfl; injection this with _ e2; injection e2 with e3 _; exact h2 e3))
            refine take_op 8 (some 24) (v := ?_) rfl rfl (by kernel_rfl) (by kernel_rfl) (by kernel_rfl) (fun _ _ _ h => h) (Or.inl ⟨by rfl, ?_⟩) (by assumption) ?_
            rotate_left
            · intro w_ hSw_; (try dsimp only at hSw_); go_simp; (try with_reducible rfl)
            try simp only [Act.put, List.setIfInBounds_toArray, List.set_cons_zero, List.set_cons_succ]
            refine wpAnyH_done (by kernel_rfl) ?_ _
            clear hHeld e0 e1 e2 f0 f1 f2
            go_wp2_with fail
            go_ret
            rw [hne.out]
            exact ⟨rfl, HBE.out.drew⟩
        · have hne : Hid (decide (la = lb) = false) := Lib.hid (decide_eq_false (fun e => by subst e; have := HS.out.1 rfl; injection this with e3 _; exact h1 e3))
          refine take_op 8 (some 24) (v := ?_) rfl rfl (by kernel_rfl) (by kernel_rfl) (by kernel_rfl) (fun _ _ _ h => h) (Or.inl ⟨by rfl, ?_⟩) (by assumption) ?_
          rotate_left
          · intro w_ hSw_; (try dsimp only at hSw_); go_simp; (try with_reducible rfl)
          try simp only [Act.put, List.setIfInBounds_toArray, List.set_cons_zero, List.set_cons_succ]
          refine wpAnyH_done (by kernel_rfl) ?_ _
          clear hHeld e0 e1 e2 f0 f1 f2
          go_wp2_with fail
          go_ret
          rw [hne.out]
          exact ⟨rfl, HBE.out.drew⟩
      · have g1 : ¬ (i : Int) < (n : Int) := by omega
        have hin : i = n := by omega
        subst hin
        have hall : decide (la = lb) = true := by
          have h1 := HQ.out
          rw [List.take_of_length_le (by rw [← HNA.out]; exact Nat.le_refl _), List.take_of_length_le (by rw [← HNB.out]; exact Nat.le_refl _)] at h1
          simpa using h1
        have HALL := Lib.hid hall
        clear hall
        go_wp2_with fail
        go_ret
        rw [HALL.out]
        exact ⟨rfl, HBE.out⟩
  · have hne : decide (la = lb) = false := by
      have : ¬ la = lb := fun e => hn (by rw [e])
      simpa using this
    rw [hne]
    have hn' : ¬ (la.length : Int) = (lb.length : Int) := by omega
    have hn2 : ((la.length : Int) != (lb.length : Int)) = true := by simpa using hn'
    clear hne has hbs
    go_enter Try.func30, Try.ntmps30
    go_wp2_with fail
    go_ret
    exact ⟨rfl, Below.refl _ _⟩
end Go.Proofs.Ytimiehnknehagaa
