import Derived.Test.YtcienfbkcfhfcaaCrcOne
import Derived.Deep.RegionHeld3
set_option linter.unusedSimpArgs false
set_option linter.unusedVariables false
namespace Go.Proofs.Ytcienfbkcfhfcaa
open Go.RowKit
attribute [local go_sem] mrow_set
theorem of_any' (m : List W32) (hm : m.length = 32) (x : W32) (w : World) :
    Calls Try.prog 55 #[.agg (mrowL m).toArray, .int .u32 (tn x)] w fun e w' => e = .returned (.int .u32 (tn (ofF m x))) ∧ w' = w.alloc (.cells (mrow m) 93 (0,0)) := of_any m hm x w
set_option maxHeartbeats 400000 in
theorem twice_any (m : List W32) (hm : m.length = 32) (w : World) :
    Calls Try.prog 54 #[.agg (mrow m)] w fun e w' => e = .returned (.agg (mrow (twF m))) ∧ Below w.heap.size w w' := by
  have HM := Lib.hid hm; clear hm
  go_enter Try.func54, Try.ntmps54
  go_wp2_with (first | (with_reducible refine at_allocM ?_))
  go_loopw [5] (fun i wr => ∃ k : Nat, k ≤ 32 ∧ i = .int .i64 k ∧ Below w.heap.size w wr ∧ Blk wr w.heap.size (mrow m) 93 ∧ Blk wr (w.heap.size + 1) (mrow z32) 93 ∧ Blk wr (w.heap.size + 1 + 1) (mrow (twN m k)) 93) (fun i _ => 32 - (intOf i).toNat)
  case atStart => exact ⟨0, by omega, rfl, (((Below.refl _ _).alloc (by simp) _).alloc (by simp) _).alloc (by simp; omega) _, ((Blk.new _ _ _).alloc _).alloc _, (Blk.new' _ _ _ (by simp)).alloc _, Blk.new' _ _ _ (by simp)⟩
  case round =>
    obtain ⟨k, hk, rfl, hb, h0, h1, h2⟩ := hrel
    by_cases hlt : k < 32
    · have hc := mat_cell HM.out hlt
      go_wp2
      refine wp_region_held_drew (S := fun w' => w'.rangeAt w.heap.size 0 (mrowL m) ∧ w'.cell? ⟨w.heap.size, k, none⟩ = some (.int .u32 (tn (mAt m k)))) (by kernel_rfl) ?_ (fun hHeld => ?_)
      · exact ⟨h0.range, (h0.cell k).trans hc⟩
      refine wpAnyH_take (i := 0) (v := ?_) rfl (by kernel_rfl) (by kernel_rfl) (by kernel_rfl) (fun _ _ _ h => h) (Or.inl ⟨by rfl, ?_⟩) (by assumption) ?_
      rotate_left
      · intro w_ hSw_; (try dsimp only at hSw_); go_simp; (try with_reducible rfl)
      try simp only [Act.put, List.setIfInBounds_toArray, List.set_cons_zero, List.set_cons_succ]
      refine wpAnyH_take (i := 1) rfl (by kernel_rfl) (by kernel_rfl) (by kernel_rfl) (fun _ _ _ h => h) (yieldsIf_load_mid (by rfl) _ _ rfl _ _ rfl (mrowL m) _ (fun w' h => h.1) mat_und rfl (mat_szl HM.out)) (by assumption) ?_
      try simp only [Act.put, List.setIfInBounds_toArray, List.set_cons_zero, List.set_cons_succ]
      refine wpAnyH_take (i := 2) (v := ?_) rfl (by kernel_rfl) (by kernel_rfl) (by kernel_rfl) (fun _ _ _ h => h) (Or.inl ⟨by rfl, ?_⟩) (by assumption) ?_
      rotate_left
      · intro w_ hSw_; (try dsimp only at hSw_); go_simp; (try with_reducible rfl)
      try simp only [Act.put, List.setIfInBounds_toArray, List.set_cons_zero, List.set_cons_succ]
      refine wpAnyH_take (i := 3) (v := ?_) rfl (by kernel_rfl) (by kernel_rfl) (by kernel_rfl) (fun _ _ _ h => h) (Or.inl ⟨by rfl, ?_⟩) (by assumption) ?_
      rotate_left
      · intro w_ hSw_; (try dsimp only at hSw_); go_simp; (try with_reducible rfl)
      try simp only [Act.put, List.setIfInBounds_toArray, List.set_cons_zero, List.set_cons_succ]
      refine wpAnyH_take (i := 4) (v := ?_) rfl (by kernel_rfl) (by kernel_rfl) (by kernel_rfl) (fun _ _ _ h => h) (Or.inl ⟨by rfl, ?_⟩) (by assumption) ?_
      rotate_left
      · intro w_ hSw_; (try dsimp only at hSw_); go_simp; (try with_reducible rfl)
      try simp only [Act.put, List.setIfInBounds_toArray, List.set_cons_zero, List.set_cons_succ]
      refine wpAnyH_ready (rs := [5]) (by kernel_rfl) (by simp) ?_
      refine AllReadyH.cons rfl (fun K_ hK_ => ?_) AllReadyH.nil
      go_simp
      refine (of_any' m HM.out _ _).mono ?_
      rintro e w' ⟨rfl, rfl⟩
      refine hK_.out _ _ ?_ (fun hHeld_ => ?_)
      · exact ⟨(h0.alloc _).range, ((h0.alloc _).cell k).trans hc⟩
      try simp only [Act.put, List.setIfInBounds_toArray, List.set_cons_zero, List.set_cons_succ]
      refine wpAnyH_take (i := 6) (v := ?_) rfl (by kernel_rfl) (by kernel_rfl) (by kernel_rfl) (fun _ _ _ h => h) (Or.inl ⟨by rfl, ?_⟩) (by assumption) ?_
      rotate_left
      · intro w_ hSw_; (try dsimp only at hSw_); go_simp; (try with_reducible rfl)
      try simp only [Act.put, List.setIfInBounds_toArray, List.set_cons_zero, List.set_cons_succ]
      refine wpAnyH_ready (rs := [7]) (by kernel_rfl) (by simp) ?_
      refine AllReadyH.cons rfl (fun K_ hK_ => ?_) AllReadyH.nil
      have hs1 := ((h2.alloc (.cells (mrow m) 93)).cell k).trans (mat_cell (twN_len m k) hlt)
      have hs2 := (h2.alloc (.cells (mrow m) 93)).free k
      go_simp
      refine hK_.out _ _ ?_ (fun hHeld_ => ?_)
      · exact ⟨(((h0.alloc _).setCell_other (by show _ ≠ _; dsimp only; omega) _).drew).range, ((((h0.alloc _).setCell_other (by show _ ≠ _; dsimp only; omega) _).drew).cell k).trans hc⟩
      refine wpAnyH_done (by kernel_rfl) ?_ _
      have hb2 := ((hb.alloc hb.size (.cells (mrow m) 93)).setCell (p := ⟨w.heap.size + 1 + 1, k, none⟩) (by simp; omega) (.int .u32 (tn (ofF m (mAt m k))))).drew
      have h0' := ((h0.alloc (.cells (mrow m) 93)).setCell_other (a := ⟨w.heap.size + 1 + 1, k, none⟩) (by show _ ≠ _; dsimp only; omega) (.int .u32 (tn (ofF m (mAt m k))))).drew
      have h1' := ((h1.alloc (.cells (mrow m) 93)).setCell_other (a := ⟨w.heap.size + 1 + 1, k, none⟩) (by show _ ≠ _; dsimp only; omega) (.int .u32 (tn (ofF m (mAt m k))))).drew
      have h2' := Lib.hid ((h2.alloc (.cells (mrow m) 93)).setCell k (.int .u32 (tn (ofF m (mAt m k))))).drew
      rw [mrow_set] at h2'
      clear hs1 hs2 hHeld_
      go_wp2
      go_roundw
      case rel => exact ⟨k + 1, by omega, by go_num, hb2, h0', h1', h2'.out⟩
      case measure => simp [intOf]; omega
    · have hk32 : k = 32 := by omega
      subst hk32
      go_wp2_with (first | ((with_reducible refine at_loadM (w.heap.size + 1 + 1) (twN m 32) ?_ ?_ ?_ ?_); exact rfl; exact h2; exact twN_len _ _) | ((with_reducible refine at_storeM (w.heap.size + 1) z32 (twN m 32) ?_ ?_ ?_ ?_ ?_ ?_); exact rfl; exact rfl; exact h1; exact z32_len; exact twN_len _ _))
      have h1' := h1.setRow (mrow (twN m 32))
      have hb' := below_setRow hb (g := w.heap.size + 1) (by omega) (mrow (twN m 32))
      exact bodyPost_ret (results_cell_row rfl _ _ (w.heap.size + 1) 93 _ (0, 0) _ rfl h1' mat_und rfl (mat_szi (twN_len _ _))) rfl ⟨rfl, hb'⟩
end Go.Proofs.Ytcienfbkcfhfcaa
