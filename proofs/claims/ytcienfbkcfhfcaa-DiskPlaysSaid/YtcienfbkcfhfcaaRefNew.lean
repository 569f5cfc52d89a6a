import Derived.Test.YtcienfbkcfhfcaaRefWr
import Derived.Test.YtcienfbkcfhfcaaSteps
import Derived.Test.YtcienfbkcfhfcaaKeep2
set_option linter.unusedSimpArgs false
set_option linter.unusedVariables false
namespace Go.Proofs.Ytcienfbkcfhfcaa
open Go.RowKit
theorem ref_new_bad (n : Int) (hn : n < 1 ∨ 4096 < n) (w : World) :
    Calls Try.prog 24 #[.int .i64 n] w fun e w' => e = .returned (.tuple #[.pointer none, .int .i64 1]) ∧ w' = w := by
  rcases hn with hn | hn
  · go_enter Try.func24, Try.ntmps24
    go_wp2
    go_ret2
    exact ⟨rfl, rfl⟩
  · go_enter Try.func24, Try.ntmps24
    go_wp2
    go_ret2
    exact ⟨rfl, rfl⟩
theorem sl_str : Try.prog.underlying 52 = some (.slice 9) := by kernel_rfl
theorem str_info : (Try.prog.info? 9).map (fun i => (i.zero, i.size, i.bytes)) = some (some (.string ByteArray.empty), 1, 16) := by kernel_rfl
/-- The row of a disk under way: its slice v, k sectors. -/
structure NewAt (w : World) (b : Nat) (v : Value) (k : Nat) : Prop where
  blk : Blk w b #[v, .bool false, .bool false, .int .i64 0, .int .i64 0, .int .i64 0] 54
  row : w.ownsRow (b + 1) 9 1 v k (List.replicate k (.string zs))
set_option maxRecDepth 100000 in
set_option maxHeartbeats 1000000 in
theorem ref_new (n : Nat) (h1 : 1 ≤ n) (h2 : n ≤ 4096) (w : World) :
    Calls Try.prog 24 #[.int .i64 n] w fun e w' => ∃ b sb, e = .returned (.tuple #[.pointer (some ⟨b, 0, none⟩), .int .i64 0]) ∧ RefAt w' b sb (dNew n) ∧ Below w.heap.size w w' ∧ w.heap.size ≤ b ∧ w.heap.size ≤ sb := by
  go_enter Try.func24, Try.ntmps24
  go_wp2_with fail
  go_loopw [5] (fun v wr => ∃ (k : Nat) (sv : Value), k ≤ n ∧ v = .int .i64 k ∧ NewAt wr w.heap.size sv k ∧ Below w.heap.size w wr) (fun v _ => n - (intOf v).toNat)
  case atStart =>
    refine ⟨0, .slice none 0 0, Nat.zero_le _, rfl, ⟨?_, ?_⟩, (Below.refl _ _).alloc (Nat.le_refl _) _⟩
    · exact Blk.new _ _ _
    · exact ⟨rfl, .inl ⟨rfl, rfl⟩⟩
  case round =>
    obtain ⟨k, sv, hk, rfl, hN, hB⟩ := hrel
    have c0 : wr.cell? ⟨w.heap.size, 0, none⟩ = some sv := hN.blk.cell 0
    have f0 := hN.blk.free 0
    have HN := Lib.hid hN
    have HB := Lib.hid hB
    clear hN hB
    by_cases hlt : k < n
    · go_wp2_with fail
      refine wp_region_gate (fun w1 => w1.cell? ⟨w.heap.size, 0, none⟩ = some sv) 8 (by kernel_rfl) ?_ (fun hHeld => ?_)
      · exact c0
      refine take_gop0 0 (some 19) (v := ?_) rfl rfl (by kernel_rfl) (by kernel_rfl) (by kernel_rfl) (by kernel_rfl) (fun _ _ _ h => h) (Or.inl ⟨by rfl, ?_⟩) (by first | exact fun _ => by assumption | exact fun h => absurd h (by decide)) ?_
      rotate_left
      · intro w_ hSw_; (try dsimp only at hSw_); go_simp; (try with_reducible rfl)
      try simp only [Act.put, List.setIfInBounds_toArray, List.set_cons_zero, List.set_cons_succ]
      refine take_gop0 1 (some 20) (v := ?_) rfl rfl (by kernel_rfl) (by kernel_rfl) (by kernel_rfl) (by kernel_rfl) (fun _ _ _ h => h) (Or.inl ⟨by rfl, ?_⟩) (by first | exact fun _ => by assumption | exact fun h => absurd h (by decide)) ?_
      rotate_left
      · intro w_ hSw_; (try dsimp only at hSw_); go_simp; (try with_reducible rfl)
      try simp only [Act.put, List.setIfInBounds_toArray, List.set_cons_zero, List.set_cons_succ]
      refine take_gop0 2 (some 21) (v := ?_) rfl rfl (by kernel_rfl) (by kernel_rfl) (by kernel_rfl) (by kernel_rfl) (fun _ _ _ h => h) (Or.inl ⟨by rfl, ?_⟩) (by first | exact fun _ => by assumption | exact fun h => absurd h (by decide)) ?_
      rotate_left
      · intro w_ hSw_; (try dsimp only at hSw_); go_simp; (try with_reducible rfl)
      try simp only [Act.put, List.setIfInBounds_toArray, List.set_cons_zero, List.set_cons_succ]
      refine take_gop0 3 (some 22) (v := ?_) rfl rfl (by kernel_rfl) (by kernel_rfl) (by kernel_rfl) (by kernel_rfl) (fun _ _ _ h => h) (Or.inl ⟨by rfl, ?_⟩) (by first | exact fun _ => by assumption | exact fun h => absurd h (by decide)) ?_
      rotate_left
      · intro w_ hSw_; (try dsimp only at hSw_); go_simp; (try with_reducible rfl)
      try simp only [Act.put, List.setIfInBounds_toArray, List.set_cons_zero, List.set_cons_succ]
      refine take_gop 4 (some 23) (v := ?_) rfl rfl (by kernel_rfl) (by kernel_rfl) (by kernel_rfl) (by kernel_rfl) (fun _ _ _ h => h) (Or.inl ⟨by rfl, ?_⟩) (by assumption) ?_
      rotate_left
      · intro w_ hSw_; (try dsimp only at hSw_); go_simp; (try with_reducible rfl)
      try simp only [Act.put, List.setIfInBounds_toArray, List.set_cons_zero, List.set_cons_succ]
      refine go_gopS 5 rfl (by kernel_rfl) (fun K_ hK_ => ?_)
      refine step_makeB sl_u8 u8_info .i64 .i64 256 (some 24) rfl rfl rfl rfl rfl (by omega) (by omega) ?_
      intro w1 hb1 hz1 hr1
      replace hr1 := Lib.hid hr1
      simp only [Act.put, List.setIfInBounds_toArray, List.set_cons_zero, List.set_cons_succ]
      have HN1 : Hid (NewAt w1 w.heap.size sv k) := Lib.hid ⟨HN.out.blk.drew.below hb1 HN.out.blk.lt, owns_below HN.out.row.drew hb1 (Nat.le_refl _)⟩
      have c1 : w1.cell? ⟨w.heap.size, 0, none⟩ = some sv := HN1.out.blk.cell 0
      refine hK_.out _ _ ?_ (fun hHeld_ => ?_)
      · exact c1
      refine go_gopS 6 rfl (by kernel_rfl) (fun K_ hK_ => ?_)
      refine step_toStr sl_u8 u8_u str_u wr.drew.heap.size 0 256 (List.replicate 256 0) 256 List.length_replicate.symm (some 25) rfl rfl rfl rfl (fun j hj => ?_) ?_
      · rw [Nat.zero_add]; exact (hr1.out j hj).1
      have hzs : (⟨(List.replicate 256 (0 : UInt8)).toArray⟩ : ByteArray) = zs := rfl
      rw [hzs]
      simp only [Act.put, List.setIfInBounds_toArray, List.set_cons_zero, List.set_cons_succ]
      refine hK_.out _ _ ?_ (fun hHeld_ => ?_)
      · exact c1
      refine go_gopS 7 rfl (by kernel_rfl) (fun K_ hK_ => ?_)
      go_simp
      have HN2 : Hid (NewAt (w1.alloc (.cells #[.string zs] 9)) w.heap.size sv k) := Lib.hid ⟨HN1.out.blk.alloc _, owns_below HN1.out.row ((Below.refl _ _).alloc (Nat.le_refl w1.heap.size) _) (Nat.le_refl _)⟩
      have HB2 : Hid (Below w.heap.size w (w1.alloc (.cells #[.string zs] 9))) := Lib.hid (HB.out.drew.trans ((hb1.mono (by have := HB.out.size; exact this)).alloc (by have h3 := HB.out.size; have h4 : w1.heap.size = wr.heap.size + 1 := hz1; omega) _))
      have c2 : (w1.alloc (.cells #[.string zs] 9)).cell? ⟨w.heap.size, 0, none⟩ = some sv := HN2.out.blk.cell 0
      have cz : (w1.alloc (.cells #[.string zs] 9)).cell? ⟨wr.heap.size + 1, 0, none⟩ = some (.string zs) := (Blk.new' w1 #[.string zs] 9 hz1.symm).cell 0
      have hs2 : w.heap.size + 1 ≤ (w1.alloc (.cells #[.string zs] 9)).heap.size := HN2.out.blk.lt
      clear c0 c1 f0 hHeld HN1 HN HB hr1
      revert HN2 HB2 c2 cz hs2
      generalize w1.alloc (.cells #[.string zs] 9) = w2
      intro HN2 HB2 c2 cz hs2
      refine hK_.out _ _ ?_ (fun hHeld_ => ?_)
      · exact c2
      refine go_gopF 8 rfl (by kernel_rfl) (by kernel_rfl) (fun K_ hK_ => ?_)
      refine step_app sl_str str_info rfl (some 27) rfl rfl rfl (w.heap.size + 1) sv k (List.replicate k (.string zs)) rfl HN2.out.row ⟨wr.heap.size + 1, 0, none⟩ 1 (.string zs) rfl cz rfl (by simp [maxLen]; omega) (by omega) hs2 ?_
      intro g cap w3 hown hgrow hat hlt3
      have hbl := owns_block HN2.out.row
      have hb3 : Blk w3 w.heap.size #[sv, .bool false, .bool false, .int .i64 0, .int .i64 0, .int .i64 0] 54 := (hgrow.block _ HN2.out.blk.lt (fun e => by have := hbl _ e.symm; omega)).trans HN2.out.blk
      have HB3 : Hid (Below w.heap.size w w3) := Lib.hid (HB2.out.trans (below_grown hgrow (by omega) (fun k hk => by have := hbl k hk; omega)))
      have c3 : w3.cell? ⟨w.heap.size, 0, none⟩ = some sv := hb3.cell 0
      have f3 := hb3.free 0
      have hne : w.heap.size ≠ g := by
        rcases hat with h | h
        · have := hbl _ h; omega
        · omega
      have HO := Lib.hid hown
      have H3 := Lib.hid hb3
      clear hown hb3 hgrow hat hbl HN2 HB2 c2 cz hs2
      simp only [Act.put, List.setIfInBounds_toArray, List.set_cons_zero, List.set_cons_succ]
      refine hK_.out _ _ ?_
      refine take_gop0 9 (some 28) (v := ?_) rfl rfl (by kernel_rfl) (by kernel_rfl) (by kernel_rfl) (by kernel_rfl) (fun _ _ _ h => h) (Or.inl ⟨by rfl, ?_⟩) (by first | exact fun _ => by assumption | exact fun h => absurd h (by decide)) ?_
      rotate_left
      · intro w_ hSw_; (try dsimp only at hSw_); go_simp; (try with_reducible rfl)
      try simp only [Act.put, List.setIfInBounds_toArray, List.set_cons_zero, List.set_cons_succ]
      refine take_gop0 10 (some 29) (v := ?_) rfl rfl (by kernel_rfl) (by kernel_rfl) (by kernel_rfl) (by kernel_rfl) (fun _ _ _ h => h) (Or.inl ⟨by rfl, ?_⟩) (by first | exact fun _ => by assumption | exact fun h => absurd h (by decide)) ?_
      rotate_left
      · intro w_ hSw_; (try dsimp only at hSw_); go_simp; (try with_reducible rfl)
      try simp only [Act.put, List.setIfInBounds_toArray, List.set_cons_zero, List.set_cons_succ]
      refine go_gopF 11 rfl (by kernel_rfl) (by kernel_rfl) (fun K_ hK_ => ?_)
      go_simp
      refine hK_.out _ _ ?_
      refine AnyG.done (by kernel_rfl) ?_ _
      go_wp2
      go_roundw
      case rel =>
        refine ⟨k + 1, _, by omega, by go_num, ⟨H3.out.setCell 0 _, ?_⟩, HB3.out.setCell (p := ⟨w.heap.size, 0, none⟩) (Nat.le_refl _) _⟩
        rw [List.replicate_succ']
        refine ⟨HO.out.1, ?_⟩
        rcases HO.out.2 with ⟨h, _⟩ | ⟨g', cap', cur, h1, h2, h3, h4⟩
        · cases h
        · refine .inr ⟨g', cap', cur, h1, h2, ?_, h4⟩
          cases h1
          exact (Below.heap_setCell _ _ _ _ (Ne.symm hne)).trans h3
      case measure => simp [intOf]; omega
    · have hkn : k = n := by omega
      go_wp2
      go_ret2
      subst hkn
      rcases HN.out.row.2 with ⟨_, h0⟩ | ⟨g, cap, cur, hv, hg, hcur, hkc, hcm, hcs, hcells⟩
      · omega
      · subst hv
        refine ⟨w.heap.size, g, rfl, ⟨by omega, dNew_wf h1 h2, 0, cap, cur, ?_, hcur, ?_, hcm, ?_, fun h => by cases h⟩, HB.out, Nat.le_refl _, by omega⟩
        · have : refRow g cap 0 (dNew k) = #[.slice (some ⟨g, 0, none⟩) k cap, .bool false, .bool false, .int .i64 0, .int .i64 0, .int .i64 0] := by simp [refRow, dNew]
          rw [this]; exact HN.out.blk
        · simpa [dNew] using hkc
        · intro i hi
          have hi' : i < k := by simpa [dNew] using hi
          have e1 : (dNew k).at i = zs := by simp [DM.at, dNew, hi']
          rw [e1]
          have h5 := congrArg (fun l : List Value => l[i]?) hcells
          simp [hi'] at h5
          exact h5
end Go.Proofs.Ytcienfbkcfhfcaa
