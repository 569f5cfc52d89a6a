/- What two states' balances differ by is what the document says, and entries are a state's just where the document says so; it does not matter that states are copied. No condition; a state or a list beyond the statement's own limits asks the example alone. -/
import Derived.Test.YtimiehnknehagaaRefSame
import Derived.Test.YtimiehnknehagaaCopySt
import Derived.Test.YtimiehnknehagaaEntK
import Derived.Test.YtimiehnknehagaaKeep
import Derived.Test.YtimiehnknehagaaRows
import Derived.ProofKit
import Derived.OpenShut
import Derived.Below
set_option linter.unusedSimpArgs false
set_option linter.unusedVariables false
namespace Go.Proofs.Ytimiehnknehagaa.entryDiffers
open Go.ChangeShapes Go.WideShapes Go.ChangeAt Go.RowKit
set_option maxRecDepth 100000 in
set_option maxHeartbeats 8000000 in
theorem walk0 (w : World) (va vb : Value) (a b : StateM) (ha : StAt w va a) (hb : StAt w vb b) (ia : ∀ y ∈ a.loans, in64L y) (ib : ∀ y ∈ b.loans, in64L y) (vl : Value) (l : List Ent) (hl : RowsAt encE 3 w vl l) :
    Calls Try.prog 3 #[va, vb, vl] w fun e w' => e = .returned (.bool true) ∧ Below w.heap.size w w' := by
  obtain ⟨la, ba, rfl, _, _⟩ := ha.cells
  obtain ⟨lb, bb, rfl, _, _⟩ := hb.cells
  have hrl := hl
  obtain ⟨adl, cl, rfl, hl1, hl2, _⟩ := hl
  obtain ⟨n, hn⟩ : ∃ n, n = l.length := ⟨_, rfl⟩
  rw [← hn] at hl1 hl2 hrl ⊢
  have HNL := Lib.hid hn
  have HIA := Lib.hid ia
  have HIB := Lib.hid ib
  clear ia ib hn
  obtain ⟨w0, hw0⟩ : ∃ w0, w0 = (w.alloc (.cells (stCells a la ba) 27)).alloc (.cells (stCells b lb bb) 27) := ⟨_, rfl⟩
  have hb0 : Below w.heap.size w w0 := by rw [hw0]; exact ((Below.refl _ w).alloc (Nat.le_refl _) _).alloc (by simp) _
  have hka : Blk w0 w.heap.size (stCells a la ba) 27 := by rw [hw0]; exact (Blk.new w _ _).alloc _
  have hkb : Blk w0 (w.heap.size + 1) (stCells b lb bb) 27 := by rw [hw0]; exact Blk.new' _ _ _ (by simp)
  have HKA := Lib.hid hka
  have HKB := Lib.hid hkb
  have HB0 := Lib.hid hb0
  have HA0 := Lib.hid (ha.below hb0)
  have HBB0 := Lib.hid (hb.below hb0)
  have HRL := Lib.hid (hrl.below hb0)
  unfold stCells at hw0 ⊢
  have HW := Lib.hid hw0
  clear hw0 hb0 hka hkb ha hb hrl
  go_enter Try.func3, Try.ntmps3
  go_wp2_with fail
  try simp only [World.size_alloc]
  rw [← HW.out]
  refine (large_any _ a w0 HA0.out).mono ?_
  rintro e w1 ⟨l1, rfl, hp1, hb1⟩
  have HS1 := Lib.hid hp1
  have HY1 : Hid (Below w0.heap.size w0 w1) := Lib.hid hb1
  have HX1 := Lib.hid (HB0.out.trans (HY1.out.mono HB0.out.size))
  clear hp1 hb1
  cases l1
  rotate_left
  · have HBX := HX1
    go_wp2_with fail
    refine (wakes26_any _).mono ?_
    rintro e wz ⟨rfl, hbz⟩
    go_wp2_with fail
    go_ret
    exact ⟨rfl, HBX.out.trans (hbz.mono HBX.out.size)⟩
  · skip
    obtain ⟨d0, d1, d2, d3, d4, d5, d6, d7, d8, d9, d10, d11, d12⟩ := (HKB.out.below HY1.out HKB.out.lt).st
    have hs2 := HBB0.out.below HY1.out
    go_wp2_with fail
    refine (large_any _ b w1 hs2).mono ?_
    rintro e w2 ⟨l2, rfl, hp2, hb2⟩
    have HS2 := Lib.hid hp2
    have HY2 : Hid (Below w0.heap.size w0 w2) := Lib.hid (HY1.out.trans (hb2.mono HY1.out.size))
    have HX2 := Lib.hid (HB0.out.trans (HY2.out.mono HB0.out.size))
    clear hp2 hb2 hs2 d0 d1 d2 d3 d4 d5 d6 d7 d8 d9 d10 d11 d12
    cases l2
    rotate_left
    · have HBX := HX2
      go_wp2_with fail
      refine (wakes26_any _).mono ?_
      rintro e wz ⟨rfl, hbz⟩
      go_wp2_with fail
      go_ret
      exact ⟨rfl, HBX.out.trans (hbz.mono HBX.out.size)⟩
    · skip
      by_cases hbig : 200 < n
      · have g1 : (200 : Int) < (n : Int) := by omega
        have HBX := HX2
        go_wp2_with fail
        refine (wakes26_any _).mono ?_
        rintro e wz ⟨rfl, hbz⟩
        go_wp2_with fail
        go_ret
        exact ⟨rfl, HBX.out.trans (hbz.mono HBX.out.size)⟩
      · have g1 : ¬ (200 : Int) < (n : Int) := by omega
        have HLA := Lib.hid (HS1.out (by first | exact rfl | exact True.intro))
        have HLB := Lib.hid (HS2.out (by first | exact rfl | exact True.intro))
        have HYC := HY2
        clear HS1 HS2 HX1 HX2 HY1 HY2
        go_wp2_with fail
        · skip
          refine wp_region_held_drew (S := fun w' => Below w0.heap.size w0 w') (by kernel_rfl) HYC.out.drew (fun hHeld => ?_)
          refine take_op 0 (some 19) (v := .agg (stCells a la ba)) rfl rfl (by kernel_rfl) (by kernel_rfl) (by kernel_rfl) (fun _ _ _ h => h) (Or.inl ⟨by rfl, ?_⟩) (by assumption) ?_
          · intro w_ hSw_
            obtain ⟨d0, d1, d2, d3, d4, d5, d6, d7, d8, d9, d10, d11, d12⟩ := (HKA.out.below hSw_ HKA.out.lt).st
            go_simp
            rfl
          try simp only [Act.put, List.setIfInBounds_toArray, List.set_cons_zero, List.set_cons_succ]
          refine take_op 2 (some 21) (v := .agg (stCells b lb bb)) rfl rfl (by kernel_rfl) (by kernel_rfl) (by kernel_rfl) (fun _ _ _ h => h) (Or.inl ⟨by rfl, ?_⟩) (by assumption) ?_
          · intro w_ hSw_
            obtain ⟨d0, d1, d2, d3, d4, d5, d6, d7, d8, d9, d10, d11, d12⟩ := (HKB.out.below hSw_ HKB.out.lt).st
            go_simp
            rfl
          try simp only [Act.put, List.setIfInBounds_toArray, List.set_cons_zero, List.set_cons_succ]
          refine take_op 6 (some 25) (v := .agg (stCells a la ba)) rfl rfl (by kernel_rfl) (by kernel_rfl) (by kernel_rfl) (fun _ _ _ h => h) (Or.inl ⟨by rfl, ?_⟩) (by assumption) ?_
          · intro w_ hSw_
            obtain ⟨d0, d1, d2, d3, d4, d5, d6, d7, d8, d9, d10, d11, d12⟩ := (HKA.out.below hSw_ HKA.out.lt).st
            go_simp
            rfl
          try simp only [Act.put, List.setIfInBounds_toArray, List.set_cons_zero, List.set_cons_succ]
          refine take_op 7 (some 26) (v := .agg (stCells b lb bb)) rfl rfl (by kernel_rfl) (by kernel_rfl) (by kernel_rfl) (fun _ _ _ h => h) (Or.inl ⟨by rfl, ?_⟩) (by assumption) ?_
          · intro w_ hSw_
            obtain ⟨d0, d1, d2, d3, d4, d5, d6, d7, d8, d9, d10, d11, d12⟩ := (HKB.out.below hSw_ HKB.out.lt).st
            go_simp
            rfl
          try simp only [Act.put, List.setIfInBounds_toArray, List.set_cons_zero, List.set_cons_succ]
          refine go_op 1 rfl (by kernel_rfl) (fun K_ hK_ => ?_)
          go_simp
          refine (copyState_any _ a (by have := HLA.out.1; omega) (by have := HLA.out.2.1; omega) (fun x hx => by have := HLA.out.2.2 x hx; omega) _ (HA0.out.below hHeld)).mono ?_
          rintro e wd ⟨vca, rfl, sca, bca⟩
          have hh_ := hHeld.trans (bca.mono hHeld.size)
          try simp only [Act.put, List.setIfInBounds_toArray, List.set_cons_zero, List.set_cons_succ]
          clear bca 
          refine hK_.out _ _ hh_ (fun hHeld_ => ?_)
          clear hh_
          refine go_op 3 rfl (by kernel_rfl) (fun K_ hK_ => ?_)
          go_simp
          refine (copyState_any _ b (by have := HLB.out.1; omega) (by have := HLB.out.2.1; omega) (fun x hx => by have := HLB.out.2.2 x hx; omega) _ (HBB0.out.below hHeld_)).mono ?_
          rintro e we ⟨vcb, rfl, scb, bcb⟩
          have hh_ := hHeld_.trans (bcb.mono hHeld_.size)
          replace sca := sca.below bcb
          try simp only [Act.put, List.setIfInBounds_toArray, List.set_cons_zero, List.set_cons_succ]
          clear bcb hHeld_
          refine hK_.out _ _ hh_ (fun hHeld_ => ?_)
          clear hh_
          refine go_op 4 rfl (by kernel_rfl) (fun K_ hK_ => ?_)
          go_simp
          refine (diff_any vca vcb a b (by have := HLA.out.1; omega) (by have := HLB.out.1; omega) we sca scb (fun x hx => (HIA.out x hx).three) (fun x hx => (HIB.out x hx).three)).mono ?_
          rintro e wf ⟨v1, es, rfl, t1, n1, o1, b1⟩
          have n1 : es.length ≤ 600 := by have := HLA.out.1; have := HLB.out.1; omega
          have r1 := RowsAt.own encE_len o1 rfl (by omega)
          have T1 := Lib.hid t1
          clear t1 o1
          have hh_ := hHeld_.trans (b1.mono hHeld_.size)
          replace sca := sca.below b1
          replace scb := scb.below b1
          try simp only [Act.put, List.setIfInBounds_toArray, List.set_cons_zero, List.set_cons_succ]
          clear b1 hHeld_
          refine hK_.out _ _ hh_ (fun hHeld_ => ?_)
          clear hh_
          clear sca scb
          refine go_op 5 rfl (by kernel_rfl) (fun K_ hK_ => ?_)
          go_simp
          refine (os_any v1 es (by omega) _ r1).mono ?_
          rintro e wg ⟨v2, rfl, r2, b2⟩
          have hh_ := hHeld_.trans (b2.mono hHeld_.size)
          replace r1 := r1.below b2
          try simp only [Act.put, List.setIfInBounds_toArray, List.set_cons_zero, List.set_cons_succ]
          clear b2 hHeld_
          refine hK_.out _ _ hh_ (fun hHeld_ => ?_)
          clear hh_
          clear r1
          refine go_op 8 rfl (by kernel_rfl) (fun K_ hK_ => ?_)
          go_simp
          refine (refDiff_any _ _ a b HLA.out.1 HLB.out.1 wg (HA0.out.below hHeld_) (HBB0.out.below hHeld_) HIA.out HIB.out).mono ?_
          rintro e wh ⟨v3, es3, rfl, t3, r3, n3, b3⟩
          have heq : es = es3 := T1.out.unique t3
          subst heq
          clear t3 n3
          have hh_ := hHeld_.trans (b3.mono hHeld_.size)
          replace r2 := r2.below b3
          try simp only [Act.put, List.setIfInBounds_toArray, List.set_cons_zero, List.set_cons_succ]
          clear b3 hHeld_
          refine hK_.out _ _ hh_ (fun hHeld_ => ?_)
          clear hh_
          refine go_op 9 rfl (by kernel_rfl) (fun K_ hK_ => ?_)
          go_simp
          refine (alike_any v2 v3 es es _ r2 r3).mono ?_
          rintro e wi ⟨rfl, b4⟩
          have hdec : decide (es = es) = true := by simp
          rw [hdec]
          clear hdec
          have hh_ := hHeld_.trans (b4.mono hHeld_.size)
          replace r2 := r2.below b4
          replace r3 := r3.below b4
          try simp only [Act.put, List.setIfInBounds_toArray, List.set_cons_zero, List.set_cons_succ]
          clear b4 hHeld_
          refine hK_.out _ _ hh_ (fun hHeld_ => ?_)
          clear hh_
          clear r2 r3
          refine take_op 10 (some 29) (v := ?_) rfl rfl (by kernel_rfl) (by kernel_rfl) (by kernel_rfl) (fun _ _ _ h => h) (Or.inl ⟨by rfl, ?_⟩) (by assumption) ?_
          rotate_left
          · intro w_ hSw_; (try dsimp only at hSw_); go_simp; (try with_reducible rfl)
          try simp only [Act.put, List.setIfInBounds_toArray, List.set_cons_zero, List.set_cons_succ]
          refine take_op 11 (some 30) (v := ?_) rfl rfl (by kernel_rfl) (by kernel_rfl) (by kernel_rfl) (fun _ _ _ h => h) (Or.inl ⟨by rfl, ?_⟩) (by assumption) ?_
          rotate_left
          · intro w_ hSw_; (try dsimp only at hSw_); go_simp; (try with_reducible rfl)
          try simp only [Act.put, List.setIfInBounds_toArray, List.set_cons_zero, List.set_cons_succ]
          refine take_op 12 (some 31) (v := .agg (stCells a la ba)) rfl rfl (by kernel_rfl) (by kernel_rfl) (by kernel_rfl) (fun _ _ _ h => h) (Or.inl ⟨by rfl, ?_⟩) (by assumption) ?_
          · intro w_ hSw_
            obtain ⟨d0, d1, d2, d3, d4, d5, d6, d7, d8, d9, d10, d11, d12⟩ := (HKA.out.below hSw_ HKA.out.lt).st
            go_simp
            rfl
          try simp only [Act.put, List.setIfInBounds_toArray, List.set_cons_zero, List.set_cons_succ]
          refine take_op 14 (some 33) (v := ?_) rfl rfl (by kernel_rfl) (by kernel_rfl) (by kernel_rfl) (fun _ _ _ h => h) (Or.inl ⟨by rfl, ?_⟩) (by assumption) ?_
          rotate_left
          · intro w_ hSw_; (try dsimp only at hSw_); go_simp; (try with_reducible rfl)
          try simp only [Act.put, List.setIfInBounds_toArray, List.set_cons_zero, List.set_cons_succ]
          refine take_op 16 (some 35) (v := .agg (stCells a la ba)) rfl rfl (by kernel_rfl) (by kernel_rfl) (by kernel_rfl) (fun _ _ _ h => h) (Or.inl ⟨by rfl, ?_⟩) (by assumption) ?_
          · intro w_ hSw_
            obtain ⟨d0, d1, d2, d3, d4, d5, d6, d7, d8, d9, d10, d11, d12⟩ := (HKA.out.below hSw_ HKA.out.lt).st
            go_simp
            rfl
          try simp only [Act.put, List.setIfInBounds_toArray, List.set_cons_zero, List.set_cons_succ]
          refine go_op 13 rfl (by kernel_rfl) (fun K_ hK_ => ?_)
          go_simp
          refine (same26_any _ _ l a wi (HRL.out.below hHeld_) (HA0.out.below hHeld_) (by have := HLA.out.1; omega) (fun x hx => (HIA.out x hx).three)).mono ?_
          rintro e wj ⟨es5, t5, rfl, b5⟩
          have T5 := Lib.hid t5
          clear t5
          have hh_ := hHeld_.trans (b5.mono hHeld_.size)
          try simp only [Act.put, List.setIfInBounds_toArray, List.set_cons_zero, List.set_cons_succ]
          clear b5 hHeld_
          refine hK_.out _ _ hh_ (fun hHeld_ => ?_)
          clear hh_
          refine go_op 15 rfl (by kernel_rfl) (fun K_ hK_ => ?_)
          go_simp
          refine (os_any _ l (by rw [← HNL.out]; omega) _ (HRL.out.below hHeld_)).mono ?_
          rintro e wk ⟨v6, rfl, r6, b6⟩
          have hh_ := hHeld_.trans (b6.mono hHeld_.size)
          try simp only [Act.put, List.setIfInBounds_toArray, List.set_cons_zero, List.set_cons_succ]
          clear b6 hHeld_
          refine hK_.out _ _ hh_ (fun hHeld_ => ?_)
          clear hh_
          refine go_op 17 rfl (by kernel_rfl) (fun K_ hK_ => ?_)
          go_simp
          refine (refSame_any v6 _ l a wk r6 (HA0.out.below hHeld_) HLA.out.1 HIA.out).mono ?_
          rintro e wl ⟨es7, t7, rfl, b7⟩
          have heq : es5 = es7 := T5.out.unique t7
          subst heq
          clear t7
          obtain ⟨bq, hbq⟩ : ∃ bq, bq = decide (l = es5) := ⟨_, rfl⟩
          rw [← hbq]
          clear hbq
          have hh_ := hHeld_.trans (b7.mono hHeld_.size)
          replace r6 := r6.below b7
          try simp only [Act.put, List.setIfInBounds_toArray, List.set_cons_zero, List.set_cons_succ]
          clear b7 hHeld_
          refine hK_.out _ _ hh_ (fun hHeld_ => ?_)
          clear hh_
          have hbeq : Hid (@BEq.beq Bool instBEqOfDecidableEq bq bq = true) := Lib.hid (by cases bq <;> rfl)
          cases bq
          · skip
            refine take_op 18 (some 37) (v := ?_) rfl rfl (by kernel_rfl) (by kernel_rfl) (by kernel_rfl) (fun _ _ _ h => h) (Or.inl ⟨by rfl, ?_⟩) (by assumption) ?_
            rotate_left
            · intro w_ hSw_; (try dsimp only at hSw_); go_simp; (try with_reducible rfl)
            try simp only [Act.put, List.setIfInBounds_toArray, List.set_cons_zero, List.set_cons_succ]
            refine take_op 19 (some 38) (v := ?_) rfl rfl (by kernel_rfl) (by kernel_rfl) (by kernel_rfl) (fun _ _ _ h => h) (Or.inl ⟨by rfl, ?_⟩) (by assumption) ?_
            rotate_left
            · intro w_ hSw_; (try dsimp only at hSw_); go_simp; (try with_reducible rfl)
            try simp only [Act.put, List.setIfInBounds_toArray, List.set_cons_zero, List.set_cons_succ]
            refine take_op 20 (some 39) (v := ?_) rfl rfl (by kernel_rfl) (by kernel_rfl) (by kernel_rfl) (fun _ _ _ h => h) (Or.inl ⟨by rfl, ?_⟩) (by assumption) ?_
            rotate_left
            · intro w_ hSw_; (try dsimp only at hSw_); go_simp; (try with_reducible rfl)
            try simp only [Act.put, List.setIfInBounds_toArray, List.set_cons_zero, List.set_cons_succ]
            refine go_op 21 rfl (by kernel_rfl) (fun K_ hK_ => ?_)
            go_simp
            refine (wakes26_any _).mono ?_
            rintro e wm ⟨rfl, b8⟩
            have hh_ := hHeld_.trans (b8.mono hHeld_.size)
            try simp only [Act.put, List.setIfInBounds_toArray, List.set_cons_zero, List.set_cons_succ]
            clear b8 hHeld_
            refine hK_.out _ _ hh_ (fun hHeld_ => ?_)
            refine take_op 22 (some 41) (v := ?_) rfl rfl (by kernel_rfl) (by kernel_rfl) (by kernel_rfl) (fun _ _ _ h => h) (Or.inl ⟨by rfl, ?_⟩) (by assumption) ?_
            rotate_left
            · intro w_ hSw_; (try dsimp only at hSw_); go_simp; (try with_reducible rfl)
            try simp only [Act.put, List.setIfInBounds_toArray, List.set_cons_zero, List.set_cons_succ]
            refine take_op 23 (some 6) (v := ?_) rfl rfl (by kernel_rfl) (by kernel_rfl) (by kernel_rfl) (fun _ _ _ h => h) (Or.inl ⟨by rfl, ?_⟩) (by assumption) ?_
            rotate_left
            · intro w_ hSw_; (try dsimp only at hSw_); go_simp; (try with_reducible rfl)
            try simp only [Act.put, List.setIfInBounds_toArray, List.set_cons_zero, List.set_cons_succ]
            refine wpAnyH_done (by kernel_rfl) ?_ _
            have HBX := Lib.hid (HB0.out.trans (hHeld_.mono HB0.out.size))
            clear hHeld hHeld_
            go_wp2_with fail
            go_ret
            exact ⟨rfl, HBX.out⟩
          · skip
            refine take_op 18 (some 37) (v := ?_) rfl rfl (by kernel_rfl) (by kernel_rfl) (by kernel_rfl) (fun _ _ _ h => h) (Or.inl ⟨by rfl, ?_⟩) (by assumption) ?_
            rotate_left
            · intro w_ hSw_; (try dsimp only at hSw_); go_simp; (try with_reducible rfl)
            try simp only [Act.put, List.setIfInBounds_toArray, List.set_cons_zero, List.set_cons_succ]
            refine take_op 19 (some 38) (v := ?_) rfl rfl (by kernel_rfl) (by kernel_rfl) (by kernel_rfl) (fun _ _ _ h => h) (Or.inl ⟨by rfl, ?_⟩) (by assumption) ?_
            rotate_left
            · intro w_ hSw_; (try dsimp only at hSw_); go_simp; (try with_reducible rfl)
            try simp only [Act.put, List.setIfInBounds_toArray, List.set_cons_zero, List.set_cons_succ]
            refine take_op 20 (some 39) (v := ?_) rfl rfl (by kernel_rfl) (by kernel_rfl) (by kernel_rfl) (fun _ _ _ h => h) (Or.inl ⟨by rfl, ?_⟩) (by assumption) ?_
            rotate_left
            · intro w_ hSw_; (try dsimp only at hSw_); go_simp; (try with_reducible rfl)
            try simp only [Act.put, List.setIfInBounds_toArray, List.set_cons_zero, List.set_cons_succ]
            refine go_op 21 rfl (by kernel_rfl) (fun K_ hK_ => ?_)
            go_simp
            refine (wakes26_any _).mono ?_
            rintro e wm ⟨rfl, b8⟩
            have hh_ := hHeld_.trans (b8.mono hHeld_.size)
            try simp only [Act.put, List.setIfInBounds_toArray, List.set_cons_zero, List.set_cons_succ]
            clear b8 hHeld_
            refine hK_.out _ _ hh_ (fun hHeld_ => ?_)
            refine take_op 22 (some 41) (v := ?_) rfl rfl (by kernel_rfl) (by kernel_rfl) (by kernel_rfl) (fun _ _ _ h => h) (Or.inl ⟨by rfl, ?_⟩) (by assumption) ?_
            rotate_left
            · intro w_ hSw_; (try dsimp only at hSw_); go_simp; (try with_reducible rfl)
            try simp only [Act.put, List.setIfInBounds_toArray, List.set_cons_zero, List.set_cons_succ]
            refine take_op 23 (some 6) (v := ?_) rfl rfl (by kernel_rfl) (by kernel_rfl) (by kernel_rfl) (fun _ _ _ h => h) (Or.inl ⟨by rfl, ?_⟩) (by assumption) ?_
            rotate_left
            · intro w_ hSw_; (try dsimp only at hSw_); go_simp; (try with_reducible rfl)
            try simp only [Act.put, List.setIfInBounds_toArray, List.set_cons_zero, List.set_cons_succ]
            refine wpAnyH_done (by kernel_rfl) ?_ _
            have HBX := Lib.hid (HB0.out.trans (hHeld_.mono HB0.out.size))
            clear hHeld hHeld_
            go_wp2_with fail
            go_ret
            exact ⟨rfl, HBX.out⟩
theorem walk (w : World) (c0 : Array Value) (a0 : StateD) (w0 : kState.R w a0 c0.toList) (c1 : Array Value) (a1 : StateD) (w1 : kState.R w a1 c1.toList) (v2 : Value) (a2 : List EntD) (w2 : SlR kEnt w a2 v2) :
    Calls Try.prog 3 #[.agg c0, .agg c1, v2] w fun e w' => e = .returned (.bool true) ∧ Below w.heap.size w w' :=
  walk0 w _ _ _ _ (state_in w0).1 (state_in w1).1 (state_in w0).2 (state_in w1).2 v2 (a2.map entOf) (ents_in w2).1
theorem own : ownKnob Try.prog.godebug = none := by kernel_rfl
theorem laidOut : laidOutB Try.prog = true := by kernel_rfl
set_option maxRecDepth 100000 in
theorem lifted (os : Os) (started : os.Started) (H : Type) (enc : TypeId × Value → H) :
    ReturnsInHanded {} Try.checked os 3 .any (Rows.entryDiffersSpec.pre6 enc Try.prog Try.f3 Rows.entryDiffersRow.domain false) (Rows.entryDiffersSpec.post enc Try.prog Try.f3 false true false false) := by
  refine returnsInHanded_of_change (C := Try.checked) own started (by kernel_rfl) Try.func3
    (ChangeSpec.witness6 (enc := enc) (C := Try.checked) false ⟨#[], #[.agg #[.int .i64 0, .slice none 0 0, .int .i64 0, .int .i64 0, .int .i64 0, .int .i64 0, .slice none 0 0, .int .i64 0, .int .i64 0, .int .i64 0, .int .i64 0, .int .i64 0, .int .i64 0], .agg #[.int .i64 0, .slice none 0 0, .int .i64 0, .int .i64 0, .int .i64 0, .int .i64 0, .slice none 0 0, .int .i64 0, .int .i64 0, .int .i64 0, .int .i64 0, .int .i64 0, .int .i64 0], .slice none 0 0], []⟩ 8 (by kernel_rfl) (by kernel_rfl) (by kernel_rfl) (by kernel_rfl)) ?_
  intro W base args ds gs before hval0 hW hcnd _
  have hval : ∀ (j : Nat) t v, Try.f3.params[j]? = some t → args[j]? = some v → Value.okWide Try.prog W .any base t v := hval0
  have hW' := hW
  obtain ⟨p, q, hA0, hV, rfl, hfz, hnd⟩ := hW
  have hA : DataW.TrodAll enc Try.prog W 0 (fun _ => true) true Try.f3.params.toList args.toList ds p := hA0
  rw [Try.params3] at hA hval
  obtain ⟨v0, vs0, d0, ds0, p0, q0, hargs, rfl, rfl, h0, r0⟩ := trodAll_cons hA
  obtain ⟨v1, vs1, d1, ds1, p1, q1, rfl, rfl, rfl, h1, r1⟩ := trodAll_cons r0
  obtain ⟨v2, vs2, d2, ds2, p2, q2, rfl, rfl, rfl, h2, r2⟩ := trodAll_cons r1
  obtain ⟨rfl, rfl, rfl⟩ := trodAll_nil r2
  obtain rfl : args = #[v0, v1, v2] := by cases args; simp_all
  obtain ⟨rfl, rfl⟩ := trodVars_none hV
  have k0 := h0
  have lt0 : ∀ x ∈ p0, x.block < W.heap.size := by obtain ⟨m, hm⟩ := k0; exact DataW.trod_lt m _ _ _ hm
  have k1 := h1
  have lt1 : ∀ x ∈ p1, x.block < W.heap.size := by obtain ⟨m, hm⟩ := k1; exact DataW.trod_lt m _ _ _ hm
  have k2 := h2
  have lt2 : ∀ x ∈ p2, x.block < W.heap.size := by obtain ⟨m, hm⟩ := k2; exact DataW.trod_lt m _ _ _ hm
  obtain ⟨cs0, e0, _⟩ := okWide_struct Try.underlying27 (hval 0 27 v0 rfl rfl)
  obtain ⟨a0, w0⟩ : ∃ a, kState.R W a cs0.toList := by
    obtain ⟨fuel, hf⟩ := h0
    rw [e0] at hf
    exact kState.opn hf
  subst e0
  obtain ⟨cs1, e1, _⟩ := okWide_struct Try.underlying27 (hval 1 27 v1 rfl rfl)
  obtain ⟨a1, w1⟩ : ∃ a, kState.R W a cs1.toList := by
    obtain ⟨fuel, hf⟩ := h1
    rw [e1] at hf
    exact kState.opn hf
  subst e1
  obtain ⟨ad2, ln2, cp2, e2⟩ := okWide_slice Try.underlying28 (hval 2 28 v2 rfl rfl)
  obtain ⟨a2, w2⟩ : ∃ a, SlR kEnt W a v2 := by
    obtain ⟨fuel, hf⟩ := h2
    obtain ⟨a, hx⟩ := kEnts.opn hf
    obtain ⟨v, hv, hs⟩ := hx
    rw [e2] at hv ⊢
    simp [Value.cells] at hv
    subst hv
    exact ⟨a, hs⟩
  clear hA0 hval0
  refine (walk W cs0 a0 w0 cs1 a1 w1 v2 a2 w2).mono fun e W' ⟨he, bel⟩ => ?_
  subst he
  exact ⟨_, rfl, _, _, _, [], _, [], hW', trodAll_mk1 (shut_bool Try.underlying4 _), (trodAll_cons_mk (Below.trod laidOut (by kernel_rfl) (of_decide_eq_true (by kernel_rfl)) k0 bel lt0) (trodAll_cons_mk (Below.trod laidOut (by kernel_rfl) (of_decide_eq_true (by kernel_rfl)) k1 bel lt1) (trodAll_cons_mk (Below.trod laidOut (by kernel_rfl) (of_decide_eq_true (by kernel_rfl)) k2 bel lt2) trodAll_mk0))), rfl, bel.frame _, fun h => by cases h⟩
theorem over : Rows.entryDiffersRow.holds Try.pinned (OpenSpec.ofChange Rows.entryDiffersSpec) :=
  OpenClaim.holds_of_wide 3 Try.f3 rfl rfl rfl rfl rfl rfl rfl ⟨rfl, rfl, rfl, rfl, rfl⟩ rfl rfl rfl rfl rfl (by kernel_rfl) Try.func3 (by kernel_rfl)
    (of_decide_eq_true (by kernel_rfl)) (by unfold Func.isWrapper; first | (rw [if_pos (by decide +kernel)]; kernel_rfl) | (rw [if_neg (by decide +kernel)]; exact ⟨rfl, rfl⟩))
    (fun os started H enc _ => lifted os started H enc)
theorem proved : Rows.EntryDiffersSaid := over
#print axioms proved
end Go.Proofs.Ytimiehnknehagaa.entryDiffers
