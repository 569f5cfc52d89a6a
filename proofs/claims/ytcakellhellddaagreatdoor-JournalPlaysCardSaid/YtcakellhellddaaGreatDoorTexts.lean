import Derived.Test.YtcakellhellddaaGreatDoorStrs
import Derived.Test.YtcakellhellddaaGreatDoorFrPlain2
set_option linter.unusedSimpArgs false
set_option linter.unusedVariables false
namespace Go.Proofs.YtcakellhellddaaGreatDoor
open Go.RowKit
set_option maxHeartbeats 1000000 in
/-- annuitykeep.Texts: are two lists of texts the same? -/
theorem texts_any (va vb : Value) (la lb : List ByteArray) (w : World) (ha : StrsAt w va la) (hb : StrsAt w vb lb) :
    Calls Tryz.prog 28 #[va, vb] w fun e w' => e = .returned (.bool (decide (la = lb))) ∧ Below w.heap.size w w' := by
  obtain ⟨aa, ca, rfl, hla, ha⟩ := ha.out
  obtain ⟨ab, cb, rfl, hlb, hb⟩ := hb.out
  by_cases hn : la.length = lb.length
  · have HA := Lib.hid ha
    have HB := Lib.hid hb
    have HN := Lib.hid hn
    obtain ⟨n, hnn⟩ : ∃ n, n = la.length := ⟨_, rfl⟩
    have hnb : n = lb.length := by omega
    rw [← hnn, ← hnb]
    have HNN := Lib.hid hnn
    have HNB := Lib.hid hnb
    have hmax : n ≤ 9223372036854775807 := by omega
    clear ha hb hn hnn hnb hla hlb
    go_enter Tryz.func28, Tryz.ntmps28
    go_wp2_with fail
    go_loopw [5] (fun x wr => ∃ i : Nat, i ≤ n ∧ x = .int .i64 i ∧ Below w.heap.size w wr ∧ (∀ j, j < i → la[j]? = lb[j]?)) (fun x _ => n - (intOf x).toNat)
    case atStart => exact ⟨0, Nat.zero_le _, rfl, Below.refl _ _, fun j hj => by omega⟩
    case round =>
      obtain ⟨i, hi, rfl, hW, hE⟩ := hrel
      have HW := Lib.hid hW
      have HE := Lib.hid hE
      clear hW hE
      by_cases hlt : i < n
      · obtain ⟨b1, o1, rfl, hb1, hc1⟩ := HA.out (by have := HNN.out; omega)
        obtain ⟨b2, o2, rfl, hb2, hc2⟩ := HB.out (by have := HNB.out; omega)
        obtain ⟨x, hx⟩ : ∃ x, la[i]? = some x := ⟨la[i]'(by have := HNN.out; omega), List.getElem?_eq_getElem _⟩
        obtain ⟨y, hy⟩ : ∃ x, lb[i]? = some x := ⟨lb[i]'(by have := HNB.out; omega), List.getElem?_eq_getElem _⟩
        have c1 : wr.cell? ⟨b1, o1 + i, none⟩ = some (.string x) := (HW.out.cell (p := ⟨b1, o1 + i, none⟩) hb1).trans (hc1 i x hx)
        have c2 : wr.cell? ⟨b2, o2 + i, none⟩ = some (.string y) := (HW.out.cell (p := ⟨b2, o2 + i, none⟩) hb2).trans (hc2 i y hy)
        have hbeq := ba_toList_beq x y
        have HX := Lib.hid hx
        have HY := Lib.hid hy
        clear hc1 hc2 hx hy
        cases hq : (x.toList == y.toList)
        · rw [hq] at hbeq
          have hxy : x ≠ y := fun h => by rw [h] at hbeq; simp at hbeq
          have hbad : Hid (decide (la = lb) = false) := Lib.hid (by
            rw [decide_eq_false_iff_not]
            intro h
            have h1 := HX.out
            rw [h, HY.out] at h1
            exact hxy (Option.some.inj h1).symm)
          clear hbeq hxy
          go_wp2_with fail
          refine wp_region_held_drew (S := fun w' => w'.cell? ⟨b1, o1 + i, none⟩ = some (.string x) ∧ w'.cell? ⟨b2, o2 + i, none⟩ = some (.string y)) (by kernel_rfl) ⟨c1, c2⟩ (fun hHeld => ?_)
          refine take_op 0 (some 17) (v := ?_) rfl rfl (by kernel_rfl) (by kernel_rfl) (by kernel_rfl) (fun _ _ _ h => h) (Or.inl ⟨by rfl, ?_⟩) (by assumption) ?_
          rotate_left
          · intro w_ hSw_; (try dsimp only at hSw_); go_simp; (try with_reducible rfl)
          try simp only [Act.put, List.setIfInBounds_toArray, List.set_cons_zero, List.set_cons_succ]
          refine take_op 1 (some 18) (v := ?_) rfl rfl (by kernel_rfl) (by kernel_rfl) (by kernel_rfl) (fun _ _ _ h => h) (Or.inl ⟨by rfl, ?_⟩) (by assumption) ?_
          rotate_left
          · intro w_ hSw_; (try dsimp only at hSw_); go_simp; (try with_reducible rfl)
          try simp only [Act.put, List.setIfInBounds_toArray, List.set_cons_zero, List.set_cons_succ]
          refine take_op 2 (some 19) (v := ?_) rfl rfl (by kernel_rfl) (by kernel_rfl) (by kernel_rfl) (fun _ _ _ h => h) (Or.inl ⟨by rfl, ?_⟩) (by assumption) ?_
          rotate_left
          · intro w_ hSw_; (try dsimp only at hSw_); go_simp; (try with_reducible rfl)
          try simp only [Act.put, List.setIfInBounds_toArray, List.set_cons_zero, List.set_cons_succ]
          refine take_op 3 (some 20) (v := ?_) rfl rfl (by kernel_rfl) (by kernel_rfl) (by kernel_rfl) (fun _ _ _ h => h) (Or.inl ⟨by rfl, ?_⟩) (by assumption) ?_
          rotate_left
          · intro w_ hSw_; (try dsimp only at hSw_); go_simp; (try with_reducible rfl)
          try simp only [Act.put, List.setIfInBounds_toArray, List.set_cons_zero, List.set_cons_succ]
          refine take_op 4 (some 21) (v := ?_) rfl rfl (by kernel_rfl) (by kernel_rfl) (by kernel_rfl) (fun _ _ _ h => h) (Or.inl ⟨by rfl, ?_⟩) (by assumption) ?_
          rotate_left
          · intro w_ hSw_; (try dsimp only at hSw_); go_simp; (try with_reducible rfl)
          try simp only [Act.put, List.setIfInBounds_toArray, List.set_cons_zero, List.set_cons_succ]
          refine take_op 5 (some 22) (v := ?_) rfl rfl (by kernel_rfl) (by kernel_rfl) (by kernel_rfl) (fun _ _ _ h => h) (Or.inl ⟨by rfl, ?_⟩) (by assumption) ?_
          rotate_left
          · intro w_ hSw_; (try dsimp only at hSw_); go_simp; (try with_reducible rfl)
          try simp only [Act.put, List.setIfInBounds_toArray, List.set_cons_zero, List.set_cons_succ]
          refine take_op 6 (some 23) (v := ?_) rfl rfl (by kernel_rfl) (by kernel_rfl) (by kernel_rfl) (fun _ _ _ h => h) (Or.inl ⟨by rfl, ?_⟩) (by assumption) ?_
          rotate_left
          · intro w_ hSw_; (try dsimp only at hSw_); go_simp; (try with_reducible rfl)
          try simp only [Act.put, List.setIfInBounds_toArray, List.set_cons_zero, List.set_cons_succ]
          refine take_op 7 (some 24) (v := ?_) rfl rfl (by kernel_rfl) (by kernel_rfl) (by kernel_rfl) (fun _ _ _ h => h) (Or.inl ⟨by rfl, ?_⟩) (by assumption) ?_
          rotate_left
          · intro w_ hSw_; (try dsimp only at hSw_); go_simp; (try with_reducible rfl)
          try simp only [Act.put, List.setIfInBounds_toArray, List.set_cons_zero, List.set_cons_succ]
          refine take_op 8 (some 25) (v := ?_) rfl rfl (by kernel_rfl) (by kernel_rfl) (by kernel_rfl) (fun _ _ _ h => h) (Or.inl ⟨by rfl, ?_⟩) (by assumption) ?_
          rotate_left
          · intro w_ hSw_; (try dsimp only at hSw_); go_simp; (try with_reducible rfl)
          try simp only [Act.put, List.setIfInBounds_toArray, List.set_cons_zero, List.set_cons_succ]
          refine wpAnyH_done (by kernel_rfl) ?_ _
          go_wp2_with fail
          go_ret
          exact ⟨by rw [hbad.out]; rfl, HW.out.drew⟩
        · rw [hq] at hbeq
          have hxy : Hid (x = y) := Lib.hid (by
            apply ba_ext
            exact of_decide_eq_true hbeq.symm)
          clear hbeq
          go_wp2_with fail
          refine wp_region_held_drew (S := fun w' => w'.cell? ⟨b1, o1 + i, none⟩ = some (.string x) ∧ w'.cell? ⟨b2, o2 + i, none⟩ = some (.string y)) (by kernel_rfl) ⟨c1, c2⟩ (fun hHeld => ?_)
          refine take_op 0 (some 17) (v := ?_) rfl rfl (by kernel_rfl) (by kernel_rfl) (by kernel_rfl) (fun _ _ _ h => h) (Or.inl ⟨by rfl, ?_⟩) (by assumption) ?_
          rotate_left
          · intro w_ hSw_; (try dsimp only at hSw_); go_simp; (try with_reducible rfl)
          try simp only [Act.put, List.setIfInBounds_toArray, List.set_cons_zero, List.set_cons_succ]
          refine take_op 1 (some 18) (v := ?_) rfl rfl (by kernel_rfl) (by kernel_rfl) (by kernel_rfl) (fun _ _ _ h => h) (Or.inl ⟨by rfl, ?_⟩) (by assumption) ?_
          rotate_left
          · intro w_ hSw_; (try dsimp only at hSw_); go_simp; (try with_reducible rfl)
          try simp only [Act.put, List.setIfInBounds_toArray, List.set_cons_zero, List.set_cons_succ]
          refine take_op 2 (some 19) (v := ?_) rfl rfl (by kernel_rfl) (by kernel_rfl) (by kernel_rfl) (fun _ _ _ h => h) (Or.inl ⟨by rfl, ?_⟩) (by assumption) ?_
          rotate_left
          · intro w_ hSw_; (try dsimp only at hSw_); go_simp; (try with_reducible rfl)
          try simp only [Act.put, List.setIfInBounds_toArray, List.set_cons_zero, List.set_cons_succ]
          refine take_op 3 (some 20) (v := ?_) rfl rfl (by kernel_rfl) (by kernel_rfl) (by kernel_rfl) (fun _ _ _ h => h) (Or.inl ⟨by rfl, ?_⟩) (by assumption) ?_
          rotate_left
          · intro w_ hSw_; (try dsimp only at hSw_); go_simp; (try with_reducible rfl)
          try simp only [Act.put, List.setIfInBounds_toArray, List.set_cons_zero, List.set_cons_succ]
          refine take_op 4 (some 21) (v := ?_) rfl rfl (by kernel_rfl) (by kernel_rfl) (by kernel_rfl) (fun _ _ _ h => h) (Or.inl ⟨by rfl, ?_⟩) (by assumption) ?_
          rotate_left
          · intro w_ hSw_; (try dsimp only at hSw_); go_simp; (try with_reducible rfl)
          try simp only [Act.put, List.setIfInBounds_toArray, List.set_cons_zero, List.set_cons_succ]
          refine take_op 5 (some 22) (v := ?_) rfl rfl (by kernel_rfl) (by kernel_rfl) (by kernel_rfl) (fun _ _ _ h => h) (Or.inl ⟨by rfl, ?_⟩) (by assumption) ?_
          rotate_left
          · intro w_ hSw_; (try dsimp only at hSw_); go_simp; (try with_reducible rfl)
          try simp only [Act.put, List.setIfInBounds_toArray, List.set_cons_zero, List.set_cons_succ]
          refine take_op 6 (some 23) (v := ?_) rfl rfl (by kernel_rfl) (by kernel_rfl) (by kernel_rfl) (fun _ _ _ h => h) (Or.inl ⟨by rfl, ?_⟩) (by assumption) ?_
          rotate_left
          · intro w_ hSw_; (try dsimp only at hSw_); go_simp; (try with_reducible rfl)
          try simp only [Act.put, List.setIfInBounds_toArray, List.set_cons_zero, List.set_cons_succ]
          refine take_op 7 (some 24) (v := ?_) rfl rfl (by kernel_rfl) (by kernel_rfl) (by kernel_rfl) (fun _ _ _ h => h) (Or.inl ⟨by rfl, ?_⟩) (by assumption) ?_
          rotate_left
          · intro w_ hSw_; (try dsimp only at hSw_); go_simp; (try with_reducible rfl)
          try simp only [Act.put, List.setIfInBounds_toArray, List.set_cons_zero, List.set_cons_succ]
          refine take_op 8 (some 25) (v := ?_) rfl rfl (by kernel_rfl) (by kernel_rfl) (by kernel_rfl) (fun _ _ _ h => h) (Or.inl ⟨by rfl, ?_⟩) (by assumption) ?_
          rotate_left
          · intro w_ hSw_; (try dsimp only at hSw_); go_simp; (try with_reducible rfl)
          try simp only [Act.put, List.setIfInBounds_toArray, List.set_cons_zero, List.set_cons_succ]
          refine wpAnyH_done (by kernel_rfl) ?_ _
          go_wp2_with fail
          refine ⟨⟨i + 1, by omega, by go_num, HW.out.drew, fun j hj => ?_⟩, ?_⟩
          · by_cases hji : j < i
            · exact HE.out j hji
            · have hji : j = i := by omega
              rw [hji, HX.out, HY.out, hxy.out]
          · simp [intOf]; omega
      · have hin : i = n := by omega
        have hgood : Hid (decide (la = lb) = true) := Lib.hid (by
          rw [decide_eq_true_iff]
          apply List.ext_getElem?
          intro j
          by_cases hj : j < n
          · exact HE.out j (by omega)
          · rw [List.getElem?_eq_none (by have := HNN.out; omega), List.getElem?_eq_none (by have := HNB.out; omega)])
        clear hin
        go_wp2_with fail
        go_ret
        exact ⟨by rw [hgood.out]; rfl, HW.out⟩
  · have hbad : Hid (decide (la = lb) = false) := Lib.hid (by rw [decide_eq_false_iff_not]; intro h; exact hn (by rw [h]))
    have hne : ((la.length : Int) != (lb.length : Int)) = true := by simpa using (by omega : ¬ ((la.length : Int) = (lb.length : Int)))
    clear hn
    go_enter Tryz.func28, Tryz.ntmps28
    go_wp2_with fail
    go_ret
    exact ⟨by rw [hbad.out]; rfl, Below.refl _ _⟩
end Go.Proofs.YtcakellhellddaaGreatDoor
