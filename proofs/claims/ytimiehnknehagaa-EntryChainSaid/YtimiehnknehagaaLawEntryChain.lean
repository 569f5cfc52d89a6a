/- What a balance rose by from a first to a second and from a second to a third state comes to what it rose by from the first to the third; there and back comes to nothing. No condition; a state beyond the statement's own limits asks the example alone. -/
import Derived.Test.YtimiehnknehagaaChainCalls
import Derived.Test.YtimiehnknehagaaKeep
import Derived.Test.YtimiehnknehagaaRegInv
import Derived.Test.YtimiehnknehagaaRows
import Derived.ProofKit
import Derived.OpenShut
import Derived.Below
set_option linter.unusedSimpArgs false
set_option linter.unusedVariables false
namespace Go.Proofs.Ytimiehnknehagaa.entryChain
open Go.ChangeShapes Go.WideShapes Go.ChangeAt Go.RowKit
set_option maxRecDepth 100000 in
set_option maxHeartbeats 8000000 in
theorem walk0 (w : World) (va vb vc : Value) (a b c : StateM) (ha : StAt w va a) (hb : StAt w vb b) (hc : StAt w vc c) (ia : ∀ y ∈ a.loans, in64L y) (ib : ∀ y ∈ b.loans, in64L y) (ic : ∀ y ∈ c.loans, in64L y) :
    Calls Try.prog 5 #[va, vb, vc] w fun e w' => e = .returned (.bool true) ∧ Below w.heap.size w w' := by
  obtain ⟨la, ba, rfl, _, _⟩ := ha.cells
  obtain ⟨lb, bb, rfl, _, _⟩ := hb.cells
  obtain ⟨lc, bc, rfl, _, _⟩ := hc.cells
  have HIA := Lib.hid ia
  have HIB := Lib.hid ib
  have HIC := Lib.hid ic
  clear ia ib ic
  obtain ⟨w0, hw0⟩ : ∃ w0, w0 = ((w.alloc (.cells (stCells a la ba) 27)).alloc (.cells (stCells b lb bb) 27)).alloc (.cells (stCells c lc bc) 27) := ⟨_, rfl⟩
  have hb0 : Below w.heap.size w w0 := by rw [hw0]; exact (((Below.refl _ w).alloc (Nat.le_refl _) _).alloc (by simp) _).alloc (by simp; omega) _
  have hka : Blk w0 w.heap.size (stCells a la ba) 27 := by rw [hw0]; exact ((Blk.new w _ _).alloc _).alloc _
  have HB0 := Lib.hid hb0
  have HA0 := Lib.hid (ha.below hb0)
  have HBB0 := Lib.hid (hb.below hb0)
  have HC0 := Lib.hid (hc.below hb0)
  have hkb : Blk w0 (w.heap.size + 1) (stCells b lb bb) 27 := by rw [hw0]; exact (Blk.new' _ _ _ (by simp)).alloc _
  have hkc : Blk w0 (w.heap.size + 1 + 1) (stCells c lc bc) 27 := by rw [hw0]; exact Blk.new' _ _ _ (by simp)
  have HKA := Lib.hid hka
  have HKB := Lib.hid hkb
  have HKC := Lib.hid hkc
  unfold stCells at hw0 ⊢
  have HW := Lib.hid hw0
  clear hw0 hb0 hka hkb hkc
  go_enter Try.func5, Try.ntmps5
  go_wp2_with fail
  try simp only [World.size_alloc]
  rw [← HW.out]
  refine (large_any _ a w0 HA0.out).mono ?_
  rintro e w1 ⟨l1, rfl, hp1, hb1⟩
  have HS1 := Lib.hid hp1
  have HY1 : Hid (Below w0.heap.size w0 w1) := Lib.hid hb1
  have HX1 := Lib.hid (HB0.out.trans (HY1.out.mono HB0.out.size))
  clear hp1 hb1
  cases l1
  rotate_left
  · have HBX := HX1
    go_wp2_with fail
    refine (wakes26_any _).mono ?_
    rintro e wz ⟨rfl, hbz⟩
    go_wp2_with fail
    go_ret
    exact ⟨rfl, HBX.out.trans (hbz.mono HBX.out.size)⟩
  · skip
    obtain ⟨d0, d1, d2, d3, d4, d5, d6, d7, d8, d9, d10, d11, d12⟩ := (HKB.out.below HY1.out HKB.out.lt).st
    have hs2 := HBB0.out.below HY1.out
    go_wp2_with fail
    refine (large_any _ b w1 hs2).mono ?_
    rintro e w2 ⟨l2, rfl, hp2, hb2⟩
    have HS2 := Lib.hid hp2
    have HY2 : Hid (Below w0.heap.size w0 w2) := Lib.hid (HY1.out.trans (hb2.mono HY1.out.size))
    have HX2 := Lib.hid (HB0.out.trans (HY2.out.mono HB0.out.size))
    clear hp2 hb2 hs2 d0 d1 d2 d3 d4 d5 d6 d7 d8 d9 d10 d11 d12
    cases l2
    rotate_left
    · have HBX := HX2
      go_wp2_with fail
      refine (wakes26_any _).mono ?_
      rintro e wz ⟨rfl, hbz⟩
      go_wp2_with fail
      go_ret
      exact ⟨rfl, HBX.out.trans (hbz.mono HBX.out.size)⟩
    · skip
      obtain ⟨d0, d1, d2, d3, d4, d5, d6, d7, d8, d9, d10, d11, d12⟩ := (HKC.out.below HY2.out HKC.out.lt).st
      have hs3 := HC0.out.below HY2.out
      go_wp2_with fail
      refine (large_any _ c w2 hs3).mono ?_
      rintro e w3 ⟨l3, rfl, hp3, hb3⟩
      have HS3 := Lib.hid hp3
      have HY3 : Hid (Below w0.heap.size w0 w3) := Lib.hid (HY2.out.trans (hb3.mono HY2.out.size))
      have HX3 := Lib.hid (HB0.out.trans (HY3.out.mono HB0.out.size))
      clear hp3 hb3 hs3 d0 d1 d2 d3 d4 d5 d6 d7 d8 d9 d10 d11 d12
      cases l3
      rotate_left
      · have HBX := HX3
        go_wp2_with fail
        refine (wakes26_any _).mono ?_
        rintro e wz ⟨rfl, hbz⟩
        go_wp2_with fail
        go_ret
        exact ⟨rfl, HBX.out.trans (hbz.mono HBX.out.size)⟩
      · skip
        obtain ⟨d0, d1, d2, d3, d4, d5, d6, d7, d8, d9, d10, d11, d12⟩ := (HKA.out.below HY3.out HKA.out.lt).st
        have hs4 := HA0.out.below HY3.out
        go_wp2_with fail
        refine (small26_any _ a w3 hs4).mono ?_
        rintro e w4 ⟨l4, rfl, hp4, hb4⟩
        have HS4 := Lib.hid hp4
        have HY4 : Hid (Below w0.heap.size w0 w4) := Lib.hid (HY3.out.trans (hb4.mono HY3.out.size))
        have HX4 := Lib.hid (HB0.out.trans (HY4.out.mono HB0.out.size))
        clear hp4 hb4 hs4 d0 d1 d2 d3 d4 d5 d6 d7 d8 d9 d10 d11 d12
        cases l4
        · have HBX := HX4
          go_wp2_with fail
          refine (wakes26_any _).mono ?_
          rintro e wz ⟨rfl, hbz⟩
          go_wp2_with fail
          go_ret
          exact ⟨rfl, HBX.out.trans (hbz.mono HBX.out.size)⟩
        · skip
          obtain ⟨d0, d1, d2, d3, d4, d5, d6, d7, d8, d9, d10, d11, d12⟩ := (HKB.out.below HY4.out HKB.out.lt).st
          have hs5 := HBB0.out.below HY4.out
          go_wp2_with fail
          refine (small26_any _ b w4 hs5).mono ?_
          rintro e w5 ⟨l5, rfl, hp5, hb5⟩
          have HS5 := Lib.hid hp5
          have HY5 : Hid (Below w0.heap.size w0 w5) := Lib.hid (HY4.out.trans (hb5.mono HY4.out.size))
          have HX5 := Lib.hid (HB0.out.trans (HY5.out.mono HB0.out.size))
          clear hp5 hb5 hs5 d0 d1 d2 d3 d4 d5 d6 d7 d8 d9 d10 d11 d12
          cases l5
          · have HBX := HX5
            go_wp2_with fail
            refine (wakes26_any _).mono ?_
            rintro e wz ⟨rfl, hbz⟩
            go_wp2_with fail
            go_ret
            exact ⟨rfl, HBX.out.trans (hbz.mono HBX.out.size)⟩
          · skip
            obtain ⟨d0, d1, d2, d3, d4, d5, d6, d7, d8, d9, d10, d11, d12⟩ := (HKC.out.below HY5.out HKC.out.lt).st
            have hs6 := HC0.out.below HY5.out
            go_wp2_with fail
            refine (small26_any _ c w5 hs6).mono ?_
            rintro e w6 ⟨l6, rfl, hp6, hb6⟩
            have HS6 := Lib.hid hp6
            have HY6 : Hid (Below w0.heap.size w0 w6) := Lib.hid (HY5.out.trans (hb6.mono HY5.out.size))
            have HX6 := Lib.hid (HB0.out.trans (HY6.out.mono HB0.out.size))
            clear hp6 hb6 hs6 d0 d1 d2 d3 d4 d5 d6 d7 d8 d9 d10 d11 d12
            cases l6
            · have HBX := HX6
              go_wp2_with fail
              refine (wakes26_any _).mono ?_
              rintro e wz ⟨rfl, hbz⟩
              go_wp2_with fail
              go_ret
              exact ⟨rfl, HBX.out.trans (hbz.mono HBX.out.size)⟩
            · skip
              have HNA := Lib.hid (HS1.out (by first | exact rfl | exact True.intro)).1
              have HNB := Lib.hid (HS2.out (by first | exact rfl | exact True.intro)).1
              have HNC := Lib.hid (HS3.out (by first | exact rfl | exact True.intro)).1
              have HMA := Lib.hid (HS4.out (by first | exact rfl | exact True.intro))
              have HMB := Lib.hid (HS5.out (by first | exact rfl | exact True.intro))
              have HMC := Lib.hid (HS6.out (by first | exact rfl | exact True.intro))
              clear HS1 HS2 HS3 HS4 HS5 HS6 HX1 HX2 HX3 HX4 HX5 HY1 HY2 HY3 HY4 HY5
              go_wp2_with fail
              have HYC := HY6
              refine wp_region_held_drew (S := fun w' => Below w0.heap.size w0 w') (by kernel_rfl) HYC.out.drew (fun hHeld => ?_)
              refine take_op 0 (some 38) (v := .agg (stCells a la ba)) rfl rfl (by kernel_rfl) (by kernel_rfl) (by kernel_rfl) (fun _ _ _ h => h) (Or.inl ⟨by rfl, ?_⟩) (by assumption) ?_
              · intro w_ hSw_
                obtain ⟨d0, d1, d2, d3, d4, d5, d6, d7, d8, d9, d10, d11, d12⟩ := (HKA.out.below hSw_ HKA.out.lt).st
                go_simp
                rfl
              try simp only [Act.put, List.setIfInBounds_toArray, List.set_cons_zero, List.set_cons_succ]
              refine take_op 1 (some 39) (v := .agg (stCells b lb bb)) rfl rfl (by kernel_rfl) (by kernel_rfl) (by kernel_rfl) (fun _ _ _ h => h) (Or.inl ⟨by rfl, ?_⟩) (by assumption) ?_
              · intro w_ hSw_
                obtain ⟨d0, d1, d2, d3, d4, d5, d6, d7, d8, d9, d10, d11, d12⟩ := (HKB.out.below hSw_ HKB.out.lt).st
                go_simp
                rfl
              try simp only [Act.put, List.setIfInBounds_toArray, List.set_cons_zero, List.set_cons_succ]
              refine take_op 3 (some 41) (v := .agg (stCells b lb bb)) rfl rfl (by kernel_rfl) (by kernel_rfl) (by kernel_rfl) (fun _ _ _ h => h) (Or.inl ⟨by rfl, ?_⟩) (by assumption) ?_
              · intro w_ hSw_
                obtain ⟨d0, d1, d2, d3, d4, d5, d6, d7, d8, d9, d10, d11, d12⟩ := (HKB.out.below hSw_ HKB.out.lt).st
                go_simp
                rfl
              try simp only [Act.put, List.setIfInBounds_toArray, List.set_cons_zero, List.set_cons_succ]
              refine take_op 4 (some 42) (v := .agg (stCells c lc bc)) rfl rfl (by kernel_rfl) (by kernel_rfl) (by kernel_rfl) (fun _ _ _ h => h) (Or.inl ⟨by rfl, ?_⟩) (by assumption) ?_
              · intro w_ hSw_
                obtain ⟨d0, d1, d2, d3, d4, d5, d6, d7, d8, d9, d10, d11, d12⟩ := (HKC.out.below hSw_ HKC.out.lt).st
                go_simp
                rfl
              try simp only [Act.put, List.setIfInBounds_toArray, List.set_cons_zero, List.set_cons_succ]
              refine go_op 2 rfl (by kernel_rfl) (fun K_ hK_ => ?_)
              go_simp
              refine (ds_any _ _ a b _ (HA0.out.below hHeld) (HBB0.out.below hHeld) HNA.out HNB.out HIA.out HIB.out HMA.out HMB.out).mono ?_
              rintro e wd ⟨ve1, e1, rfl, te1, re1, ie1, me1, ne1, be1⟩
              have Te1 := Lib.hid te1
              have Ie1 := Lib.hid ie1
              have Me1 := Lib.hid me1
              clear te1 ie1 me1
              have hh_ := hHeld.trans (be1.mono hHeld.size)
              try simp only [Act.put, List.setIfInBounds_toArray, List.set_cons_zero, List.set_cons_succ]
              clear be1 
              refine hK_.out _ _ hh_ (fun hHeld_ => ?_)
              clear hh_
              refine go_op 5 rfl (by kernel_rfl) (fun K_ hK_ => ?_)
              go_simp
              refine (ds_any _ _ b c _ (HBB0.out.below hHeld_) (HC0.out.below hHeld_) HNB.out HNC.out HIB.out HIC.out HMB.out HMC.out).mono ?_
              rintro e we ⟨ve2, e2, rfl, te2, re2, ie2, me2, ne2, be2⟩
              have Te2 := Lib.hid te2
              have Ie2 := Lib.hid ie2
              have Me2 := Lib.hid me2
              clear te2 ie2 me2
              have hh_ := hHeld_.trans (be2.mono hHeld_.size)
              replace re1 := re1.below be2
              try simp only [Act.put, List.setIfInBounds_toArray, List.set_cons_zero, List.set_cons_succ]
              clear be2 hHeld_
              refine hK_.out _ _ hh_ (fun hHeld_ => ?_)
              clear hh_
              refine go_op 6 rfl (by kernel_rfl) (fun K_ hK_ => ?_)
              go_simp
              refine (as_any _ _ e1 e2 _ re1 re2 ne1 ne2 Ie1.out Ie2.out Te1.out.1 Te2.out.1 Me1.out Me2.out).mono ?_
              rintro e wf ⟨vex, ex, rfl, tex, rex, nex, bex⟩
              have Tex := Lib.hid tex
              clear tex
              have hh_ := hHeld_.trans (bex.mono hHeld_.size)
              replace re1 := re1.below bex
              replace re2 := re2.below bex
              try simp only [Act.put, List.setIfInBounds_toArray, List.set_cons_zero, List.set_cons_succ]
              clear bex hHeld_
              refine hK_.out _ _ hh_ (fun hHeld_ => ?_)
              clear hh_
              refine take_op 7 (some 37) (v := ?_) rfl rfl (by kernel_rfl) (by kernel_rfl) (by kernel_rfl) (fun _ _ _ h => h) (Or.inl ⟨by rfl, ?_⟩) (by assumption) ?_
              rotate_left
              · intro w_ hSw_; (try dsimp only at hSw_); go_simp; (try with_reducible rfl)
              try simp only [Act.put, List.setIfInBounds_toArray, List.set_cons_zero, List.set_cons_succ]
              refine take_op 8 (some 45) (v := ?_) rfl rfl (by kernel_rfl) (by kernel_rfl) (by kernel_rfl) (fun _ _ _ h => h) (Or.inl ⟨by rfl, ?_⟩) (by assumption) ?_
              rotate_left
              · intro w_ hSw_; (try dsimp only at hSw_); go_simp; (try with_reducible rfl)
              try simp only [Act.put, List.setIfInBounds_toArray, List.set_cons_zero, List.set_cons_succ]
              refine take_op 9 (some 46) (v := ?_) rfl rfl (by kernel_rfl) (by kernel_rfl) (by kernel_rfl) (fun _ _ _ h => h) (Or.inl ⟨by rfl, ?_⟩) (by assumption) ?_
              rotate_left
              · intro w_ hSw_; (try dsimp only at hSw_); go_simp; (try with_reducible rfl)
              try simp only [Act.put, List.setIfInBounds_toArray, List.set_cons_zero, List.set_cons_succ]
              refine take_op 10 (some 7) (v := ?_) rfl rfl (by kernel_rfl) (by kernel_rfl) (by kernel_rfl) (fun _ _ _ h => h) (Or.inl ⟨by rfl, ?_⟩) (by assumption) ?_
              rotate_left
              · intro w_ hSw_; (try dsimp only at hSw_); go_simp; (try with_reducible rfl)
              try simp only [Act.put, List.setIfInBounds_toArray, List.set_cons_zero, List.set_cons_succ]
              refine take_op 11 (some 8) (v := ?_) rfl rfl (by kernel_rfl) (by kernel_rfl) (by kernel_rfl) (fun _ _ _ h => h) (Or.inl ⟨by rfl, ?_⟩) (by assumption) ?_
              rotate_left
              · intro w_ hSw_; (try dsimp only at hSw_); go_simp; (try with_reducible rfl)
              try simp only [Act.put, List.setIfInBounds_toArray, List.set_cons_zero, List.set_cons_succ]
              refine wpAnyH_done (by kernel_rfl) ?_ _
              have HYD := Lib.hid hHeld_
              clear hHeld hHeld_ HYC re1 re2
              go_wp2_with fail
              refine wp_region_held_drew (S := fun w' => Below w0.heap.size w0 w') (by kernel_rfl) HYD.out.drew (fun hHeld => ?_)
              replace rex := rex.below ((Below.refl _ wf).drew)
              refine take_op 0 (some 47) (v := ?_) rfl rfl (by kernel_rfl) (by kernel_rfl) (by kernel_rfl) (fun _ _ _ h => h) (Or.inl ⟨by rfl, ?_⟩) (by assumption) ?_
              rotate_left
              · intro w_ hSw_; (try dsimp only at hSw_); go_simp; (try with_reducible rfl)
              try simp only [Act.put, List.setIfInBounds_toArray, List.set_cons_zero, List.set_cons_succ]
              refine take_op 1 (some 48) (v := ?_) rfl rfl (by kernel_rfl) (by kernel_rfl) (by kernel_rfl) (fun _ _ _ h => h) (Or.inl ⟨by rfl, ?_⟩) (by assumption) ?_
              rotate_left
              · intro w_ hSw_; (try dsimp only at hSw_); go_simp; (try with_reducible rfl)
              try simp only [Act.put, List.setIfInBounds_toArray, List.set_cons_zero, List.set_cons_succ]
              refine take_op 2 (some 49) (v := ?_) rfl rfl (by kernel_rfl) (by kernel_rfl) (by kernel_rfl) (fun _ _ _ h => h) (Or.inl ⟨by rfl, ?_⟩) (by assumption) ?_
              rotate_left
              · intro w_ hSw_; (try dsimp only at hSw_); go_simp; (try with_reducible rfl)
              try simp only [Act.put, List.setIfInBounds_toArray, List.set_cons_zero, List.set_cons_succ]
              refine take_op 3 (some 50) (v := ?_) rfl rfl (by kernel_rfl) (by kernel_rfl) (by kernel_rfl) (fun _ _ _ h => h) (Or.inl ⟨by rfl, ?_⟩) (by assumption) ?_
              rotate_left
              · intro w_ hSw_; (try dsimp only at hSw_); go_simp; (try with_reducible rfl)
              try simp only [Act.put, List.setIfInBounds_toArray, List.set_cons_zero, List.set_cons_succ]
              refine take_op 5 (some 52) (v := .agg (stCells a la ba)) rfl rfl (by kernel_rfl) (by kernel_rfl) (by kernel_rfl) (fun _ _ _ h => h) (Or.inl ⟨by rfl, ?_⟩) (by assumption) ?_
              · intro w_ hSw_
                obtain ⟨d0, d1, d2, d3, d4, d5, d6, d7, d8, d9, d10, d11, d12⟩ := (HKA.out.below hSw_ HKA.out.lt).st
                go_simp
                rfl
              try simp only [Act.put, List.setIfInBounds_toArray, List.set_cons_zero, List.set_cons_succ]
              refine take_op 6 (some 53) (v := .agg (stCells c lc bc)) rfl rfl (by kernel_rfl) (by kernel_rfl) (by kernel_rfl) (fun _ _ _ h => h) (Or.inl ⟨by rfl, ?_⟩) (by assumption) ?_
              · intro w_ hSw_
                obtain ⟨d0, d1, d2, d3, d4, d5, d6, d7, d8, d9, d10, d11, d12⟩ := (HKC.out.below hSw_ HKC.out.lt).st
                go_simp
                rfl
              try simp only [Act.put, List.setIfInBounds_toArray, List.set_cons_zero, List.set_cons_succ]
              refine go_op 4 rfl (by kernel_rfl) (fun K_ hK_ => ?_)
              go_simp
              refine (os_any _ ex (by omega) _ rex).mono ?_
              rintro e wg ⟨vo1, rfl, ro1, bo1⟩
              have hh_ := hHeld.trans (bo1.mono hHeld.size)
              replace rex := rex.below bo1
              try simp only [Act.put, List.setIfInBounds_toArray, List.set_cons_zero, List.set_cons_succ]
              clear bo1 
              refine hK_.out _ _ hh_ (fun hHeld_ => ?_)
              clear hh_
              clear rex
              refine go_op 7 rfl (by kernel_rfl) (fun K_ hK_ => ?_)
              go_simp
              refine (ds_any _ _ a c _ (HA0.out.below hHeld_) (HC0.out.below hHeld_) HNA.out HNC.out HIA.out HIC.out HMA.out HMC.out).mono ?_
              rintro e wh ⟨ve3, e3, rfl, te3, re3, ie3, me3, ne3, be3⟩
              have Te3 := Lib.hid te3
              have Ie3 := Lib.hid ie3
              have Me3 := Lib.hid me3
              clear te3 ie3 me3
              have hh_ := hHeld_.trans (be3.mono hHeld_.size)
              replace ro1 := ro1.below be3
              try simp only [Act.put, List.setIfInBounds_toArray, List.set_cons_zero, List.set_cons_succ]
              clear be3 hHeld_
              refine hK_.out _ _ hh_ (fun hHeld_ => ?_)
              clear hh_
              have heq : ex = e3 := Tex.out.unique (chain_told Te1.out Te2.out Te3.out (small_fit HMA.out HMB.out) (small_fit HMB.out HMC.out) (small_fit HMA.out HMC.out))
              subst heq
              refine go_op 8 rfl (by kernel_rfl) (fun K_ hK_ => ?_)
              go_simp
              refine (os_any _ ex (by omega) _ re3).mono ?_
              rintro e wi ⟨vo2, rfl, ro2, bo2⟩
              have hh_ := hHeld_.trans (bo2.mono hHeld_.size)
              replace ro1 := ro1.below bo2
              replace re3 := re3.below bo2
              try simp only [Act.put, List.setIfInBounds_toArray, List.set_cons_zero, List.set_cons_succ]
              clear bo2 hHeld_
              refine hK_.out _ _ hh_ (fun hHeld_ => ?_)
              clear hh_
              refine go_op 9 rfl (by kernel_rfl) (fun K_ hK_ => ?_)
              go_simp
              refine (alike_any _ _ ex ex _ ro1 ro2).mono ?_
              rintro e wj ⟨rfl, bj⟩
              have hdec : decide (ex = ex) = true := by simp
              rw [hdec]
              clear hdec
              have hh_ := hHeld_.trans (bj.mono hHeld_.size)
              replace ro1 := ro1.below bj
              replace re3 := re3.below bj
              replace ro2 := ro2.below bj
              try simp only [Act.put, List.setIfInBounds_toArray, List.set_cons_zero, List.set_cons_succ]
              clear bj hHeld_
              refine hK_.out _ _ hh_ (fun hHeld_ => ?_)
              clear hh_
              refine take_op 10 (some 57) (v := ?_) rfl rfl (by kernel_rfl) (by kernel_rfl) (by kernel_rfl) (fun _ _ _ h => h) (Or.inl ⟨by rfl, ?_⟩) (by assumption) ?_
              rotate_left
              · intro w_ hSw_; (try dsimp only at hSw_); go_simp; (try with_reducible rfl)
              try simp only [Act.put, List.setIfInBounds_toArray, List.set_cons_zero, List.set_cons_succ]
              refine take_op 11 (some 58) (v := ?_) rfl rfl (by kernel_rfl) (by kernel_rfl) (by kernel_rfl) (fun _ _ _ h => h) (Or.inl ⟨by rfl, ?_⟩) (by assumption) ?_
              rotate_left
              · intro w_ hSw_; (try dsimp only at hSw_); go_simp; (try with_reducible rfl)
              try simp only [Act.put, List.setIfInBounds_toArray, List.set_cons_zero, List.set_cons_succ]
              refine take_op 12 (some 59) (v := ?_) rfl rfl (by kernel_rfl) (by kernel_rfl) (by kernel_rfl) (fun _ _ _ h => h) (Or.inl ⟨by rfl, ?_⟩) (by assumption) ?_
              rotate_left
              · intro w_ hSw_; (try dsimp only at hSw_); go_simp; (try with_reducible rfl)
              try simp only [Act.put, List.setIfInBounds_toArray, List.set_cons_zero, List.set_cons_succ]
              refine take_op 13 (some 60) (v := .agg (stCells b lb bb)) rfl rfl (by kernel_rfl) (by kernel_rfl) (by kernel_rfl) (fun _ _ _ h => h) (Or.inl ⟨by rfl, ?_⟩) (by assumption) ?_
              · intro w_ hSw_
                obtain ⟨d0, d1, d2, d3, d4, d5, d6, d7, d8, d9, d10, d11, d12⟩ := (HKB.out.below hSw_ HKB.out.lt).st
                go_simp
                rfl
              try simp only [Act.put, List.setIfInBounds_toArray, List.set_cons_zero, List.set_cons_succ]
              refine take_op 14 (some 61) (v := .agg (stCells b lb bb)) rfl rfl (by kernel_rfl) (by kernel_rfl) (by kernel_rfl) (fun _ _ _ h => h) (Or.inl ⟨by rfl, ?_⟩) (by assumption) ?_
              · intro w_ hSw_
                obtain ⟨d0, d1, d2, d3, d4, d5, d6, d7, d8, d9, d10, d11, d12⟩ := (HKB.out.below hSw_ HKB.out.lt).st
                go_simp
                rfl
              try simp only [Act.put, List.setIfInBounds_toArray, List.set_cons_zero, List.set_cons_succ]
              refine go_op 15 rfl (by kernel_rfl) (fun K_ hK_ => ?_)
              go_simp
              refine (ds_any _ _ b b _ (HBB0.out.below hHeld_) (HBB0.out.below hHeld_) HNB.out HNB.out HIB.out HIB.out HMB.out HMB.out).mono ?_
              rintro e wk ⟨ve4, e4, rfl, te4, re4, ie4, me4, ne4, be4⟩
              have Te4 := Lib.hid te4
              have Ie4 := Lib.hid ie4
              have Me4 := Lib.hid me4
              clear te4 ie4 me4
              have hh_ := hHeld_.trans (be4.mono hHeld_.size)
              replace ro1 := ro1.below be4
              replace re3 := re3.below be4
              replace ro2 := ro2.below be4
              try simp only [Act.put, List.setIfInBounds_toArray, List.set_cons_zero, List.set_cons_succ]
              clear be4 hHeld_
              refine hK_.out _ _ hh_ (fun hHeld_ => ?_)
              clear hh_
              have h0 := self_told Te4.out (small_fit HMB.out HMB.out)
              subst h0
              obtain ⟨ad4, c4, hv4, _, _, _⟩ := re4
              rw [List.length_nil] at hv4
              subst hv4
              refine take_op 16 (some 63) (v := ?_) rfl rfl (by kernel_rfl) (by kernel_rfl) (by kernel_rfl) (fun _ _ _ h => h) (Or.inl ⟨by rfl, ?_⟩) (by assumption) ?_
              rotate_left
              · intro w_ hSw_; (try dsimp only at hSw_); go_simp; (try with_reducible rfl)
              try simp only [Act.put, List.setIfInBounds_toArray, List.set_cons_zero, List.set_cons_succ]
              refine take_op 17 (some 64) (v := ?_) rfl rfl (by kernel_rfl) (by kernel_rfl) (by kernel_rfl) (fun _ _ _ h => h) (Or.inl ⟨by rfl, ?_⟩) (by assumption) ?_
              rotate_left
              · intro w_ hSw_; (try dsimp only at hSw_); go_simp; (try with_reducible rfl)
              try simp only [Act.put, List.setIfInBounds_toArray, List.set_cons_zero, List.set_cons_succ]
              refine take_op 18 (some 65) (v := ?_) rfl rfl (by kernel_rfl) (by kernel_rfl) (by kernel_rfl) (fun _ _ _ h => h) (Or.inl ⟨by rfl, ?_⟩) (by assumption) ?_
              rotate_left
              · intro w_ hSw_; (try dsimp only at hSw_); go_simp; (try with_reducible rfl)
              try simp only [Act.put, List.setIfInBounds_toArray, List.set_cons_zero, List.set_cons_succ]
              refine wpAnyH_done (by kernel_rfl) ?_ _
              have HYE := Lib.hid hHeld_
              clear hHeld hHeld_ HYD
              go_wp2_with fail
              refine wp_region_held_drew (S := fun w' => Below w0.heap.size w0 w') (by kernel_rfl) HYE.out.drew (fun hHeld => ?_)
              refine take_op 0 (some 67) (v := .agg (stCells a la ba)) rfl rfl (by kernel_rfl) (by kernel_rfl) (by kernel_rfl) (fun _ _ _ h => h) (Or.inl ⟨by rfl, ?_⟩) (by assumption) ?_
              · intro w_ hSw_
                obtain ⟨d0, d1, d2, d3, d4, d5, d6, d7, d8, d9, d10, d11, d12⟩ := (HKA.out.below hSw_ HKA.out.lt).st
                go_simp
                rfl
              try simp only [Act.put, List.setIfInBounds_toArray, List.set_cons_zero, List.set_cons_succ]
              refine take_op 1 (some 68) (v := .agg (stCells b lb bb)) rfl rfl (by kernel_rfl) (by kernel_rfl) (by kernel_rfl) (fun _ _ _ h => h) (Or.inl ⟨by rfl, ?_⟩) (by assumption) ?_
              · intro w_ hSw_
                obtain ⟨d0, d1, d2, d3, d4, d5, d6, d7, d8, d9, d10, d11, d12⟩ := (HKB.out.below hSw_ HKB.out.lt).st
                go_simp
                rfl
              try simp only [Act.put, List.setIfInBounds_toArray, List.set_cons_zero, List.set_cons_succ]
              refine take_op 3 (some 70) (v := .agg (stCells b lb bb)) rfl rfl (by kernel_rfl) (by kernel_rfl) (by kernel_rfl) (fun _ _ _ h => h) (Or.inl ⟨by rfl, ?_⟩) (by assumption) ?_
              · intro w_ hSw_
                obtain ⟨d0, d1, d2, d3, d4, d5, d6, d7, d8, d9, d10, d11, d12⟩ := (HKB.out.below hSw_ HKB.out.lt).st
                go_simp
                rfl
              try simp only [Act.put, List.setIfInBounds_toArray, List.set_cons_zero, List.set_cons_succ]
              refine take_op 4 (some 71) (v := .agg (stCells a la ba)) rfl rfl (by kernel_rfl) (by kernel_rfl) (by kernel_rfl) (fun _ _ _ h => h) (Or.inl ⟨by rfl, ?_⟩) (by assumption) ?_
              · intro w_ hSw_
                obtain ⟨d0, d1, d2, d3, d4, d5, d6, d7, d8, d9, d10, d11, d12⟩ := (HKA.out.below hSw_ HKA.out.lt).st
                go_simp
                rfl
              try simp only [Act.put, List.setIfInBounds_toArray, List.set_cons_zero, List.set_cons_succ]
              refine go_op 2 rfl (by kernel_rfl) (fun K_ hK_ => ?_)
              go_simp
              refine (ds_any _ _ a b _ (HA0.out.below hHeld) (HBB0.out.below hHeld) HNA.out HNB.out HIA.out HIB.out HMA.out HMB.out).mono ?_
              rintro e wl ⟨ve5, e5, rfl, te5, re5, ie5, me5, ne5, be5⟩
              have Te5 := Lib.hid te5
              have Ie5 := Lib.hid ie5
              have Me5 := Lib.hid me5
              clear te5 ie5 me5
              have hh_ := hHeld.trans (be5.mono hHeld.size)
              try simp only [Act.put, List.setIfInBounds_toArray, List.set_cons_zero, List.set_cons_succ]
              clear be5 
              refine hK_.out _ _ hh_ (fun hHeld_ => ?_)
              clear hh_
              refine go_op 5 rfl (by kernel_rfl) (fun K_ hK_ => ?_)
              go_simp
              refine (ds_any _ _ b a _ (HBB0.out.below hHeld_) (HA0.out.below hHeld_) HNB.out HNA.out HIB.out HIA.out HMB.out HMA.out).mono ?_
              rintro e wm ⟨ve6, e6, rfl, te6, re6, ie6, me6, ne6, be6⟩
              have Te6 := Lib.hid te6
              have Ie6 := Lib.hid ie6
              have Me6 := Lib.hid me6
              clear te6 ie6 me6
              have hh_ := hHeld_.trans (be6.mono hHeld_.size)
              replace re5 := re5.below be6
              try simp only [Act.put, List.setIfInBounds_toArray, List.set_cons_zero, List.set_cons_succ]
              clear be6 hHeld_
              refine hK_.out _ _ hh_ (fun hHeld_ => ?_)
              clear hh_
              refine go_op 6 rfl (by kernel_rfl) (fun K_ hK_ => ?_)
              go_simp
              refine (as_any _ _ e5 e6 _ re5 re6 ne5 ne6 Ie5.out Ie6.out Te5.out.1 Te6.out.1 Me5.out Me6.out).mono ?_
              rintro e wn ⟨vey, ey, rfl, tey, rey, ney, bey⟩
              have Tey := Lib.hid tey
              clear tey
              have hh_ := hHeld_.trans (bey.mono hHeld_.size)
              replace re5 := re5.below bey
              replace re6 := re6.below bey
              try simp only [Act.put, List.setIfInBounds_toArray, List.set_cons_zero, List.set_cons_succ]
              clear bey hHeld_
              refine hK_.out _ _ hh_ (fun hHeld_ => ?_)
              clear hh_
              have h0 := back_told Te5.out Te6.out (small_fit HMA.out HMB.out) (small_fit HMB.out HMA.out) Tey.out
              subst h0
              obtain ⟨ad5, c5, hv5, _, _, _⟩ := rey
              rw [List.length_nil] at hv5
              subst hv5
              refine take_op 7 (some 66) (v := ?_) rfl rfl (by kernel_rfl) (by kernel_rfl) (by kernel_rfl) (fun _ _ _ h => h) (Or.inl ⟨by rfl, ?_⟩) (by assumption) ?_
              rotate_left
              · intro w_ hSw_; (try dsimp only at hSw_); go_simp; (try with_reducible rfl)
              try simp only [Act.put, List.setIfInBounds_toArray, List.set_cons_zero, List.set_cons_succ]
              refine take_op 8 (some 74) (v := ?_) rfl rfl (by kernel_rfl) (by kernel_rfl) (by kernel_rfl) (fun _ _ _ h => h) (Or.inl ⟨by rfl, ?_⟩) (by assumption) ?_
              rotate_left
              · intro w_ hSw_; (try dsimp only at hSw_); go_simp; (try with_reducible rfl)
              try simp only [Act.put, List.setIfInBounds_toArray, List.set_cons_zero, List.set_cons_succ]
              refine take_op 9 (some 75) (v := ?_) rfl rfl (by kernel_rfl) (by kernel_rfl) (by kernel_rfl) (fun _ _ _ h => h) (Or.inl ⟨by rfl, ?_⟩) (by assumption) ?_
              rotate_left
              · intro w_ hSw_; (try dsimp only at hSw_); go_simp; (try with_reducible rfl)
              try simp only [Act.put, List.setIfInBounds_toArray, List.set_cons_zero, List.set_cons_succ]
              refine take_op 10 (some 9) (v := ?_) rfl rfl (by kernel_rfl) (by kernel_rfl) (by kernel_rfl) (fun _ _ _ h => h) (Or.inl ⟨by rfl, ?_⟩) (by assumption) ?_
              rotate_left
              · intro w_ hSw_; (try dsimp only at hSw_); go_simp; (try with_reducible rfl)
              try simp only [Act.put, List.setIfInBounds_toArray, List.set_cons_zero, List.set_cons_succ]
              refine take_op 11 (some 10) (v := ?_) rfl rfl (by kernel_rfl) (by kernel_rfl) (by kernel_rfl) (fun _ _ _ h => h) (Or.inl ⟨by rfl, ?_⟩) (by assumption) ?_
              rotate_left
              · intro w_ hSw_; (try dsimp only at hSw_); go_simp; (try with_reducible rfl)
              try simp only [Act.put, List.setIfInBounds_toArray, List.set_cons_zero, List.set_cons_succ]
              refine wpAnyH_done (by kernel_rfl) ?_ _
              have HBX := Lib.hid (HB0.out.trans (hHeld_.mono HB0.out.size))
              clear hHeld hHeld_ HYE
              go_wp2_with fail
              refine (wakes26_any _).mono ?_
              rintro e wz ⟨rfl, hbz⟩
              go_wp2_with fail
              go_ret
              exact ⟨rfl, HBX.out.trans (hbz.mono HBX.out.size)⟩
theorem walk (w : World) (c0 : Array Value) (a0 : StateD) (w0 : kState.R w a0 c0.toList) (c1 : Array Value) (a1 : StateD) (w1 : kState.R w a1 c1.toList) (c2 : Array Value) (a2 : StateD) (w2 : kState.R w a2 c2.toList) :
    Calls Try.prog 5 #[.agg c0, .agg c1, .agg c2] w fun e w' => e = .returned (.bool true) ∧ Below w.heap.size w w' :=
  walk0 w _ _ _ _ _ _ (state_in w0).1 (state_in w1).1 (state_in w2).1 (state_in w0).2 (state_in w1).2 (state_in w2).2
theorem own : ownKnob Try.prog.godebug = none := by kernel_rfl
theorem laidOut : laidOutB Try.prog = true := by kernel_rfl
set_option maxRecDepth 100000 in
theorem lifted (os : Os) (started : os.Started) (H : Type) (enc : TypeId × Value → H) :
    ReturnsInHanded {} Try.checked os 5 .any (Rows.entryChainSpec.pre6 enc Try.prog Try.f5 Rows.entryChainRow.domain false) (Rows.entryChainSpec.post enc Try.prog Try.f5 false true false false) := by
  refine returnsInHanded_of_change (C := Try.checked) own started (by kernel_rfl) Try.func5
    (ChangeSpec.witness6 (enc := enc) (C := Try.checked) false ⟨#[], #[.agg #[.int .i64 0, .slice none 0 0, .int .i64 0, .int .i64 0, .int .i64 0, .int .i64 0, .slice none 0 0, .int .i64 0, .int .i64 0, .int .i64 0, .int .i64 0, .int .i64 0, .int .i64 0], .agg #[.int .i64 0, .slice none 0 0, .int .i64 0, .int .i64 0, .int .i64 0, .int .i64 0, .slice none 0 0, .int .i64 0, .int .i64 0, .int .i64 0, .int .i64 0, .int .i64 0, .int .i64 0], .agg #[.int .i64 0, .slice none 0 0, .int .i64 0, .int .i64 0, .int .i64 0, .int .i64 0, .slice none 0 0, .int .i64 0, .int .i64 0, .int .i64 0, .int .i64 0, .int .i64 0, .int .i64 0]], []⟩ 8 (by kernel_rfl) (by kernel_rfl) (by kernel_rfl) (by kernel_rfl)) ?_
  intro W base args ds gs before hval0 hW hcnd _
  have hval : ∀ (j : Nat) t v, Try.f5.params[j]? = some t → args[j]? = some v → Value.okWide Try.prog W .any base t v := hval0
  have hW' := hW
  obtain ⟨p, q, hA0, hV, rfl, hfz, hnd⟩ := hW
  have hA : DataW.TrodAll enc Try.prog W 0 (fun _ => true) true Try.f5.params.toList args.toList ds p := hA0
  rw [Try.params5] at hA hval
  obtain ⟨v0, vs0, d0, ds0, p0, q0, hargs, rfl, rfl, h0, r0⟩ := trodAll_cons hA
  obtain ⟨v1, vs1, d1, ds1, p1, q1, rfl, rfl, rfl, h1, r1⟩ := trodAll_cons r0
  obtain ⟨v2, vs2, d2, ds2, p2, q2, rfl, rfl, rfl, h2, r2⟩ := trodAll_cons r1
  obtain ⟨rfl, rfl, rfl⟩ := trodAll_nil r2
  obtain rfl : args = #[v0, v1, v2] := by cases args; simp_all
  obtain ⟨rfl, rfl⟩ := trodVars_none hV
  have k0 := h0
  have lt0 : ∀ x ∈ p0, x.block < W.heap.size := by obtain ⟨m, hm⟩ := k0; exact DataW.trod_lt m _ _ _ hm
  have k1 := h1
  have lt1 : ∀ x ∈ p1, x.block < W.heap.size := by obtain ⟨m, hm⟩ := k1; exact DataW.trod_lt m _ _ _ hm
  have k2 := h2
  have lt2 : ∀ x ∈ p2, x.block < W.heap.size := by obtain ⟨m, hm⟩ := k2; exact DataW.trod_lt m _ _ _ hm
  obtain ⟨cs0, e0, _⟩ := okWide_struct Try.underlying27 (hval 0 27 v0 rfl rfl)
  obtain ⟨a0, w0⟩ : ∃ a, kState.R W a cs0.toList := by
    obtain ⟨fuel, hf⟩ := h0
    rw [e0] at hf
    exact kState.opn hf
  subst e0
  obtain ⟨cs1, e1, _⟩ := okWide_struct Try.underlying27 (hval 1 27 v1 rfl rfl)
  obtain ⟨a1, w1⟩ : ∃ a, kState.R W a cs1.toList := by
    obtain ⟨fuel, hf⟩ := h1
    rw [e1] at hf
    exact kState.opn hf
  subst e1
  obtain ⟨cs2, e2, _⟩ := okWide_struct Try.underlying27 (hval 2 27 v2 rfl rfl)
  obtain ⟨a2, w2⟩ : ∃ a, kState.R W a cs2.toList := by
    obtain ⟨fuel, hf⟩ := h2
    rw [e2] at hf
    exact kState.opn hf
  subst e2
  clear hA0 hval0
  refine (walk W cs0 a0 w0 cs1 a1 w1 cs2 a2 w2).mono fun e W' ⟨he, bel⟩ => ?_
  subst he
  exact ⟨_, rfl, _, _, _, [], _, [], hW', trodAll_mk1 (shut_bool Try.underlying4 _), (trodAll_cons_mk (Below.trod laidOut (by kernel_rfl) (of_decide_eq_true (by kernel_rfl)) k0 bel lt0) (trodAll_cons_mk (Below.trod laidOut (by kernel_rfl) (of_decide_eq_true (by kernel_rfl)) k1 bel lt1) (trodAll_cons_mk (Below.trod laidOut (by kernel_rfl) (of_decide_eq_true (by kernel_rfl)) k2 bel lt2) trodAll_mk0))), rfl, bel.frame _, fun h => by cases h⟩
theorem over : Rows.entryChainRow.holds Try.pinned (OpenSpec.ofChange Rows.entryChainSpec) :=
  OpenClaim.holds_of_wide 5 Try.f5 rfl rfl rfl rfl rfl rfl rfl ⟨rfl, rfl, rfl, rfl, rfl⟩ rfl rfl rfl rfl rfl (by kernel_rfl) Try.func5 (by kernel_rfl)
    (of_decide_eq_true (by kernel_rfl)) (by unfold Func.isWrapper; first | (rw [if_pos (by decide +kernel)]; kernel_rfl) | (rw [if_neg (by decide +kernel)]; exact ⟨rfl, rfl⟩))
    (fun os started H enc _ => lifted os started H enc)
theorem proved : Rows.EntryChainSaid := over
#print axioms proved
end Go.Proofs.Ytimiehnknehagaa.entryChain
