/- The record with which any sectors begin, by any number, or that there is none, and each one's number, are the document's. No condition; lists that are not fair by the statement's own measure ask the example alone. -/
import Derived.Test.YtnplcjcbojjecaaDoorRows
import Derived.Test.YtnplcjcbojjecaaDoorCards
import Derived.Test.YtnplcjcbojjecaaDoorTie
import Derived.Test.YtnplcjcbojjecaaDoorFrWakes
import Derived.Test.YtnplcjcbojjecaaDoorFrFair
import Derived.Test.YtnplcjcbojjecaaDoorApp
import Derived.ProofKit
import Derived.OpenShut
import Derived.ShutString
import Derived.Lay
import Derived.PinnedBridge
import Derived.SevenTiedAt
set_option linter.unusedSimpArgs false
set_option linter.unusedVariables false
namespace Go.Proofs.YtnplcjcbojjecaaDoor.frameReads
open Go.ChangeShapes Go.WideShapes Go.ChangeAt Go.RowKit
open Go.ChangeMaps (open_string shut_string)
set_option maxRecDepth 100000 in
set_option maxHeartbeats 2000000 in
theorem walk (w : World) (v : Value) (l : List ByteArray) (h : SlR kSt w l v) (num : Int) (wn : Lit.wf (.int .u32 num) = true) :
    Calls Tryd.prog 4 #[v, .int .u32 num] w fun e w' => e = .returned (.bool true) ∧ Below w.heap.size w w' := by
  have hnum : 0 ≤ num ∧ num < 4294967296 := by
    have : 0 ≤ num ∧ num ≤ 4294967295 := by simpa [Lit.wf, IntKind.min, IntKind.max, IntKind.signed, IntKind.bits] using wn
    omega
  obtain ⟨m, rfl⟩ := Int.eq_ofNat_of_zero_le hnum.1
  have hm : m < 4294967296 := by omega
  clear wn hnum
  obtain ⟨hst, hlen, hsz⟩ := strs_in h
  have HST := Lib.hid hst
  clear h hst
  go_enter Tryd.func4, Tryd.ntmps4
  go_wp2_with fail
  refine (fair10_any v l w HST.out hlen hsz).mono ?_
  rintro e w1 ⟨b, rfl, hfair, hw⟩
  have hw := hw.symm
  subst hw
  cases b
  · clear hfair hsz hlen
    go_wp2_with fail
    refine (wakes10_any _).mono ?_
    rintro e w1 ⟨rfl, hb⟩
    go_wp2_with fail
    go_ret
    exact ⟨rfl, hb⟩
  · obtain ⟨h300, h2000⟩ := hfair rfl
    clear hfair hsz hlen
    obtain ⟨a1, c1, hv1, hmax, hcells⟩ := HST.out.out
    have H2000 := Lib.hid h2000
    have HCE := Lib.hid hcells
    clear h2000 hcells
    subst hv1
    obtain ⟨n, hn⟩ : ∃ n, n = l.length := ⟨_, rfl⟩
    have HN := Lib.hid hn
    rw [← hn] at h300 hmax ⊢
    have HST : Hid (StrsAt w (.slice a1 n c1) l) := Lib.hid (by rw [hn]; exact HST.out)
    clear hn
    have hb1 : Hid (Below w.heap.size w (w.alloc (.cells #[] 9))) := Lib.hid ((Below.refl _ _).alloc (Nat.le_refl _) _)
    have ho1 : Hid ((w.alloc (.cells #[] 9)).ownsRow w.heap.size 9 1 (.slice (some ⟨w.heap.size, 0, none⟩) 0 0) 0 (([] : List ByteArray).map Value.string)) :=
      Lib.hid ⟨rfl, .inr ⟨w.heap.size, 0, #[], rfl, Nat.le_refl _, heap_alloc_last w _, by simp, by simp, rfl, rfl⟩⟩
    have hs1 := Lib.hid (StrsAt.below HST.out hb1.out).out.choose_spec
    have hsrc : Hid (0 < l.length → ∃ b o, a1 = some ⟨b, o, none⟩ ∧ b < (w.alloc (.cells #[] 9)).heap.size ∧ ∀ (j : Nat) x, l[j]? = some x → (w.alloc (.cells #[] 9)).cell? ⟨b, o + j, none⟩ = some (.string x)) := Lib.hid (fun h0 => by
      obtain ⟨b, o, e1, e2, e3⟩ := HCE.out h0
      exact ⟨b, o, e1, Nat.lt_of_lt_of_le e2 hb1.out.size, fun j x hj => (hb1.out.cell (p := ⟨b, o + j, none⟩) e2).trans (e3 j x hj)⟩)
    clear hs1
    go_wp2_with (first | ((with_reducible refine at_appStrs w.heap.size (.slice (some ⟨w.heap.size, 0, none⟩) 0 0) 0 [] l a1 n c1 HN.out ho1.out hsrc.out ?_ hb1.out.size ?_ ?_ ?_); omega; exact rfl; exact rfl; intro v2 w2 ho2 hg2 hv2) | fail)
    have HB2 := Lib.hid (hb1.out.trans (below_grown hg2 hb1.out.size (fun k hk => by cases hk; exact Nat.le_refl _)))
    have hv2s : Hid (StrsAt w2 v2 l) := Lib.hid (StrsAt.own ho2 (by first | (rw [Nat.zero_add]; exact HN.out) | (simp; exact HN.out)) (by have := HN.out; omega))
    clear ho2 hg2 hv2 hsrc ho1 hb1
    have h300l : Hid (l.length ≤ 300) := Lib.hid (by have := HN.out; omega)
    refine (frRead_strs v2 l m hm (by have := h300l.out; omega) (fun x hx => by have := H2000.out x hx; omega) w2 hv2s.out).mono ?_
    rintro e w3 ⟨rfl, hb3⟩
    have HB3 := Lib.hid (HB2.out.trans (hb3.mono HB2.out.size))
    have HV3 := Lib.hid (hv2s.out.below hb3)
    clear hb3 hv2s HB2
    obtain ⟨r, hr⟩ : ∃ r, r = readF l m := ⟨_, rfl⟩
    rw [← hr]
    have HR := Lib.hid hr
    clear hr
    obtain ⟨rs, rn, rb⟩ := r
    dsimp only [got3]
    go_wp2_with fail
    refine (rfRead_strs (.slice a1 n c1) l m hm (by have := h300l.out; omega) (fun x hx => by have := H2000.out x hx; omega) w3 ((StrsAt.below HST.out HB3.out))).mono ?_
    rintro e w4 ⟨rfl, hb4⟩
    rw [← HR.out]
    have HB4 := Lib.hid (HB3.out.trans (hb4.mono HB3.out.size))
    have HV4 := Lib.hid (HV3.out.below hb4)
    clear hb4 HB3 HV3 HR
    dsimp only [gotS]
    go_wp2_with fail
    generalize hw5 : w4.alloc _ = w5
    have hg : Hid (Blk w5 w4.heap.size #[.string rs, .int .i64 (rn : Int), .bool rb] 37) := Lib.hid (by rw [← hw5]; exact Blk.new _ _ _)
    have h45 : Below w4.heap.size w4 w5 := by rw [← hw5]; exact (Below.refl _ _).alloc (Nat.le_refl _) _
    have HB5 := Lib.hid (HB4.out.trans (h45.mono HB4.out.size))
    have HV5 := Lib.hid (HV4.out.below h45)
    obtain ⟨a2, c2, rfl, _, hc2⟩ := HV5.out.out
    have HC2 := Lib.hid hc2
    have HC1 : Hid (0 < l.length → ∃ b o, a1 = some ⟨b, o, none⟩ ∧ b < w5.heap.size ∧ ∀ (j : Nat) x, l[j]? = some x → w5.cell? ⟨b, o + j, none⟩ = some (.string x)) := Lib.hid (fun h0 => by
      obtain ⟨b, o, e1, e2, e3⟩ := HCE.out h0
      exact ⟨b, o, e1, Nat.lt_of_lt_of_le e2 HB5.out.size, fun j x hj => (HB5.out.cell (p := ⟨b, o + j, none⟩) e2).trans (e3 j x hj)⟩)
    obtain ⟨gb, hgb⟩ : ∃ gb, gb = w4.heap.size := ⟨_, rfl⟩
    rw [← hgb] at hg ⊢
    rw [← HN.out]
    clear hw5 h45 hc2 hgb HV4 HV5 HCE HST
    go_loopw [10] (fun x wr => ∃ i : Nat, i ≤ n ∧ x = .int .i64 i ∧ Below w5.heap.size w5 wr) (fun x _ => n - (intOf x).toNat)
    case atStart => exact ⟨0, Nat.zero_le _, rfl, Below.refl _ _⟩
    case round =>
      obtain ⟨i, hi, rfl, hB⟩ := hrel
      have HB := Lib.hid hB
      clear hB
      by_cases hlt : i < n
      · obtain ⟨x, hx⟩ : ∃ x, l[i]? = some x := ⟨l[i]'(by have := HN.out; omega), List.getElem?_eq_getElem _⟩
        obtain ⟨b1, o1, rfl, hb1, hc1⟩ := HC1.out (by have := HN.out; omega)
        obtain ⟨b2, o2, rfl, hb2, hc2⟩ := HC2.out (by have := HN.out; omega)
        have k1 : wr.cell? ⟨b1, o1 + i, none⟩ = some (.string x) := (HB.out.cell (p := ⟨b1, o1 + i, none⟩) hb1).trans (hc1 i x hx)
        have k2 : wr.cell? ⟨b2, o2 + i, none⟩ = some (.string x) := (HB.out.cell (p := ⟨b2, o2 + i, none⟩) hb2).trans (hc2 i x hx)
        have hxs := H2000.out x (List.mem_of_getElem? hx)
        have l1 : b1 < wr.heap.size := Nat.lt_of_lt_of_le hb1 HB.out.size
        have l2 : b2 < wr.heap.size := Nat.lt_of_lt_of_le hb2 HB.out.size
        clear hc1 hc2 hx
        go_wp2_with fail
        refine wp_region_held_drew (S := fun w' => w'.cell? ⟨b1, o1 + i, none⟩ = some (.string x) ∧ w'.cell? ⟨b2, o2 + i, none⟩ = some (.string x)) (by kernel_rfl) ⟨k1, k2⟩ (fun hHeld => ?_)
        refine take_op 0 (some 34) (v := ?_) rfl rfl (by kernel_rfl) (by kernel_rfl) (by kernel_rfl) (fun _ _ _ h => h) (Or.inl ⟨by rfl, ?_⟩) (by assumption) ?_
        rotate_left
        · intro w_ hSw_; (try dsimp only at hSw_); go_simp; (try with_reducible rfl)
        try simp only [Act.put, List.setIfInBounds_toArray, List.set_cons_zero, List.set_cons_succ]
        refine take_op 1 (some 35) (v := ?_) rfl rfl (by kernel_rfl) (by kernel_rfl) (by kernel_rfl) (fun _ _ _ h => h) (Or.inl ⟨by rfl, ?_⟩) (by assumption) ?_
        rotate_left
        · intro w_ hSw_; (try dsimp only at hSw_); go_simp; (try with_reducible rfl)
        try simp only [Act.put, List.setIfInBounds_toArray, List.set_cons_zero, List.set_cons_succ]
        refine take_op 2 (some 36) (v := ?_) rfl rfl (by kernel_rfl) (by kernel_rfl) (by kernel_rfl) (fun _ _ _ h => h) (Or.inl ⟨by rfl, ?_⟩) (by assumption) ?_
        rotate_left
        · intro w_ hSw_; (try dsimp only at hSw_); go_simp; (try with_reducible rfl)
        try simp only [Act.put, List.setIfInBounds_toArray, List.set_cons_zero, List.set_cons_succ]
        refine take_op 3 (some 37) (v := ?_) rfl rfl (by kernel_rfl) (by kernel_rfl) (by kernel_rfl) (fun _ _ _ h => h) (Or.inl ⟨by rfl, ?_⟩) (by assumption) ?_
        rotate_left
        · intro w_ hSw_; (try dsimp only at hSw_); go_simp; (try with_reducible rfl)
        try simp only [Act.put, List.setIfInBounds_toArray, List.set_cons_zero, List.set_cons_succ]
        refine take_op 5 (some 39) (v := ?_) rfl rfl (by kernel_rfl) (by kernel_rfl) (by kernel_rfl) (fun _ _ _ h => h) (Or.inl ⟨by rfl, ?_⟩) (by assumption) ?_
        rotate_left
        · intro w_ hSw_; (try dsimp only at hSw_); go_simp; (try with_reducible rfl)
        try simp only [Act.put, List.setIfInBounds_toArray, List.set_cons_zero, List.set_cons_succ]
        refine take_op 6 (some 40) (v := ?_) rfl rfl (by kernel_rfl) (by kernel_rfl) (by kernel_rfl) (fun _ _ _ h => h) (Or.inl ⟨by rfl, ?_⟩) (by assumption) ?_
        rotate_left
        · intro w_ hSw_; (try dsimp only at hSw_); go_simp; (try with_reducible rfl)
        try simp only [Act.put, List.setIfInBounds_toArray, List.set_cons_zero, List.set_cons_succ]
        refine take_op 7 (some 41) (v := ?_) rfl rfl (by kernel_rfl) (by kernel_rfl) (by kernel_rfl) (fun _ _ _ h => h) (Or.inl ⟨by rfl, ?_⟩) (by assumption) ?_
        rotate_left
        · intro w_ hSw_; (try dsimp only at hSw_); go_simp; (try with_reducible rfl)
        try simp only [Act.put, List.setIfInBounds_toArray, List.set_cons_zero, List.set_cons_succ]
        refine take_op 8 (some 42) (v := ?_) rfl rfl (by kernel_rfl) (by kernel_rfl) (by kernel_rfl) (fun _ _ _ h => h) (Or.inl ⟨by rfl, ?_⟩) (by assumption) ?_
        rotate_left
        · intro w_ hSw_; (try dsimp only at hSw_); go_simp; (try with_reducible rfl)
        try simp only [Act.put, List.setIfInBounds_toArray, List.set_cons_zero, List.set_cons_succ]
        refine go_op 4 rfl (by kernel_rfl) (fun K_ hK_ => ?_)
        go_simp
        refine (frNum_any x (by simp [maxLen]; omega) _).mono ?_
        rintro e w6 ⟨rfl, hb6⟩
        have k3 : w6.cell? ⟨b1, o1 + i, none⟩ = some (.string x) := (hb6.cell (p := ⟨b1, o1 + i, none⟩) l1).trans k1
        have k4 : w6.cell? ⟨b2, o2 + i, none⟩ = some (.string x) := (hb6.cell (p := ⟨b2, o2 + i, none⟩) l2).trans k2
        have HB6 := Lib.hid (HB.out.drew.trans (hb6.mono HB.out.size))
        have l3 : b1 < w6.heap.size := Nat.lt_of_lt_of_le l1 hb6.size
        have l4 : b2 < w6.heap.size := Nat.lt_of_lt_of_le l2 hb6.size
        clear hb6 hHeld
        simp only [Act.put, List.setIfInBounds_toArray, List.set_cons_zero, List.set_cons_succ]
        refine hK_.out _ _ ⟨k3, k4⟩ (fun hHeld => ?_)
        refine go_op 9 rfl (by kernel_rfl) (fun K_ hK_ => ?_)
        go_simp
        refine (rfNum_any x (by simp [maxLen]; omega) _).mono ?_
        rintro e w7 ⟨rfl, hb7⟩
        have k5 : w7.cell? ⟨b1, o1 + i, none⟩ = some (.string x) := (hb7.cell (p := ⟨b1, o1 + i, none⟩) l3).trans k3
        have k6 : w7.cell? ⟨b2, o2 + i, none⟩ = some (.string x) := (hb7.cell (p := ⟨b2, o2 + i, none⟩) l4).trans k4
        have HB7 := Lib.hid (HB6.out.trans (hb7.mono HB6.out.size))
        clear hb7 hHeld k1 k2 k3 k4 l1 l2 l3 l4 HB6
        simp only [Act.put, List.setIfInBounds_toArray, List.set_cons_zero, List.set_cons_succ]
        refine hK_.out _ _ ⟨k5, k6⟩ (fun hHeld => ?_)
        refine take_op 10 (some 44) (v := ?_) rfl rfl (by kernel_rfl) (by kernel_rfl) (by kernel_rfl) (fun _ _ _ h => h) (Or.inl ⟨by rfl, ?_⟩) (by assumption) ?_
        rotate_left
        · intro w_ hSw_; (try dsimp only at hSw_); go_simp; (try with_reducible rfl)
        try simp only [Act.put, List.setIfInBounds_toArray, List.set_cons_zero, List.set_cons_succ]
        refine take_op 11 (some 45) (v := ?_) rfl rfl (by kernel_rfl) (by kernel_rfl) (by kernel_rfl) (fun _ _ _ h => h) (Or.inl ⟨by rfl, ?_⟩) (by assumption) ?_
        rotate_left
        · intro w_ hSw_; (try dsimp only at hSw_); go_simp; (try with_reducible rfl)
        try simp only [Act.put, List.setIfInBounds_toArray, List.set_cons_zero, List.set_cons_succ]
        refine take_op 12 (some 46) (v := ?_) rfl rfl (by kernel_rfl) (by kernel_rfl) (by kernel_rfl) (fun _ _ _ h => h) (Or.inl ⟨by rfl, ?_⟩) (by assumption) ?_
        rotate_left
        · intro w_ hSw_; (try dsimp only at hSw_); go_simp; (try with_reducible rfl)
        try simp only [Act.put, List.setIfInBounds_toArray, List.set_cons_zero, List.set_cons_succ]
        refine take_op 13 (some 47) (v := ?_) rfl rfl (by kernel_rfl) (by kernel_rfl) (by kernel_rfl) (fun _ _ _ h => h) (Or.inl ⟨by rfl, ?_⟩) (by assumption) ?_
        rotate_left
        · intro w_ hSw_; (try dsimp only at hSw_); go_simp; (try with_reducible rfl)
        try simp only [Act.put, List.setIfInBounds_toArray, List.set_cons_zero, List.set_cons_succ]
        refine take_op 14 (some 48) (v := ?_) rfl rfl (by kernel_rfl) (by kernel_rfl) (by kernel_rfl) (fun _ _ _ h => h) (Or.inl ⟨by rfl, ?_⟩) (by assumption) ?_
        rotate_left
        · intro w_ hSw_; (try dsimp only at hSw_); go_simp; (try with_reducible rfl)
        try simp only [Act.put, List.setIfInBounds_toArray, List.set_cons_zero, List.set_cons_succ]
        refine take_op 15 (some 49) (v := ?_) rfl rfl (by kernel_rfl) (by kernel_rfl) (by kernel_rfl) (fun _ _ _ h => h) (Or.inl ⟨by rfl, ?_⟩) (by assumption) ?_
        rotate_left
        · intro w_ hSw_; (try dsimp only at hSw_); go_simp; (try with_reducible rfl)
        try simp only [Act.put, List.setIfInBounds_toArray, List.set_cons_zero, List.set_cons_succ]
        refine take_op 16 (some 50) (v := ?_) rfl rfl (by kernel_rfl) (by kernel_rfl) (by kernel_rfl) (fun _ _ _ h => h) (Or.inl ⟨by rfl, ?_⟩) (by assumption) ?_
        rotate_left
        · intro w_ hSw_; (try dsimp only at hSw_); go_simp; (try with_reducible rfl)
        try simp only [Act.put, List.setIfInBounds_toArray, List.set_cons_zero, List.set_cons_succ]
        refine take_op 17 (some 51) (v := ?_) rfl rfl (by kernel_rfl) (by kernel_rfl) (by kernel_rfl) (fun _ _ _ h => h) (Or.inl ⟨by rfl, ?_⟩) (by assumption) ?_
        rotate_left
        · intro w_ hSw_; (try dsimp only at hSw_); go_simp; (try with_reducible rfl)
        try simp only [Act.put, List.setIfInBounds_toArray, List.set_cons_zero, List.set_cons_succ]
        refine take_op 18 (some 52) (v := ?_) rfl rfl (by kernel_rfl) (by kernel_rfl) (by kernel_rfl) (fun _ _ _ h => h) (Or.inl ⟨by rfl, ?_⟩) (by assumption) ?_
        rotate_left
        · intro w_ hSw_; (try dsimp only at hSw_); go_simp; (try with_reducible rfl)
        try simp only [Act.put, List.setIfInBounds_toArray, List.set_cons_zero, List.set_cons_succ]
        refine take_op 19 (some 53) (v := ?_) rfl rfl (by kernel_rfl) (by kernel_rfl) (by kernel_rfl) (fun _ _ _ h => h) (Or.inl ⟨by rfl, ?_⟩) (by assumption) ?_
        rotate_left
        · intro w_ hSw_; (try dsimp only at hSw_); go_simp; (try with_reducible rfl)
        try simp only [Act.put, List.setIfInBounds_toArray, List.set_cons_zero, List.set_cons_succ]
        refine take_op 20 (some 54) (v := ?_) rfl rfl (by kernel_rfl) (by kernel_rfl) (by kernel_rfl) (fun _ _ _ h => h) (Or.inl ⟨by rfl, ?_⟩) (by assumption) ?_
        rotate_left
        · intro w_ hSw_; (try dsimp only at hSw_); go_simp; (try with_reducible rfl)
        try simp only [Act.put, List.setIfInBounds_toArray, List.set_cons_zero, List.set_cons_succ]
        refine take_op 21 (some 55) (v := ?_) rfl rfl (by kernel_rfl) (by kernel_rfl) (by kernel_rfl) (fun _ _ _ h => h) (Or.inl ⟨by rfl, ?_⟩) (by assumption) ?_
        rotate_left
        · intro w_ hSw_; (try dsimp only at hSw_); go_simp; (try with_reducible rfl)
        try simp only [Act.put, List.setIfInBounds_toArray, List.set_cons_zero, List.set_cons_succ]
        refine wpAnyH_done (by kernel_rfl) ?_ _
        clear hHeld
        go_wp2_with fail
        go_roundw
        case rel => exact ⟨i + 1, by omega, by go_num, HB7.out⟩
        case measure => simp [intOf]; omega
      · have g0 := (hg.out.below HB.out hg.out.lt).cell 0
        have g1 := (hg.out.below HB.out hg.out.lt).cell 1
        have g2 := (hg.out.below HB.out hg.out.lt).cell 2
        simp only [List.getElem?_toArray, List.getElem?_cons_zero, List.getElem?_cons_succ] at g0 g1 g2
        go_wp2_with fail
        refine (wakes10_any _).mono ?_
        rintro e w8 ⟨rfl, hb8⟩
        have HB8 := Lib.hid (HB5.out.trans ((HB.out.trans (hb8.mono HB.out.size)).mono HB5.out.size))
        clear hb8
        go_wp2_with fail
        go_ret
        exact ⟨rfl, HB8.out⟩
theorem own : ownKnob Tryd.prog.godebug = none := by kernel_rfl
theorem laidOut : laidOutB Tryd.prog = true := by kernel_rfl
set_option maxRecDepth 100000 in
theorem lifted (os : Os) (started : os.Started) (H : Type) (enc : TypeId × Value → H) :
    ReturnsInHanded {} Tryd.checked os 4 .any (fun w args => (Rows.frameReadsSpec.pre enc Tryd.prog Tryd.f4 [] false w args ∧ laidMetH Tryd.prog Rows.frameReadsRow.laid w) ∧ sizedMet enc Tryd.prog Tryd.f4 (OpenSpec.ofChange Rows.frameReadsSpec) false w args) (Rows.frameReadsSpec.post enc Tryd.prog Tryd.f4 false true false false) := by
  refine returnsInHanded_of_change_and (C := Tryd.checked) (X := fun w _ => laidMetH Tryd.prog Rows.frameReadsRow.laid w) (fun _ _ _ hh h => h.of_heap hh) own started (by kernel_rfl) Tryd.func4
    (ChangeSpec.witness_shaped (enc := enc) (C := Tryd.checked) (os := os) (X := fun w _ => laidMetH Tryd.prog Rows.frameReadsRow.laid w) false (World.laidAll Tryd.prog os Rows.frameReadsRow.laid) #[.slice none 0 0, .int .u32 0] 8 (World.laidAll_os _ _ _)
      (World.shaped_of_ZipB (by kernel_rfl) (by kernel_rfl)) (by kernel_rfl) (by kernel_rfl) (by kernel_rfl)
      (by rw [MakeChecks.laidMetH_plain _ _ _ (by kernel_rfl)]; exact laidMet_laidAll _ (by kernel_rfl) (by kernel_rfl))) ?_
  intro W base args ds gs before hval0 hW _ _ _hL _
  have hval : ∀ (j : Nat) t v, Tryd.f4.params[j]? = some t → args[j]? = some v → Value.okWide Tryd.prog W .any base t v := hval0
  have hW' := hW
  obtain ⟨p, q, hA0, hV, rfl, hfz, hnd⟩ := hW
  have hA : DataW.TrodAll enc Tryd.prog W 0 (fun _ => true) true Tryd.f4.params.toList args.toList ds p := hA0
  rw [Tryd.params4] at hA hval
  obtain ⟨v0, vs0, d0, ds0, p0, q0, hargs, rfl, rfl, h0, r0⟩ := trodAll_cons hA
  obtain ⟨v1, vs1, d1, ds1, p1, q1, rfl, rfl, rfl, h1, r1⟩ := trodAll_cons r0
  obtain ⟨rfl, rfl, rfl⟩ := trodAll_nil r1
  obtain rfl : args = #[v0, v1] := by cases args; simp_all
  obtain ⟨rfl, rfl⟩ := trodVars_none hV
  have k0 := h0
  have lt0 : ∀ x ∈ p0, x.block < W.heap.size := by obtain ⟨m, hm⟩ := k0; exact DataW.trod_lt m _ _ _ hm
  have k1 := h1
  have lt1 : ∀ x ∈ p1, x.block < W.heap.size := by obtain ⟨m, hm⟩ := k1; exact DataW.trod_lt m _ _ _ hm
  obtain ⟨ad0, ln0, cp0, e0⟩ := okWide_slice Tryd.underlying24 (hval 0 24 v0 rfl rfl)
  obtain ⟨a0, w0⟩ : ∃ a, SlR kSt W a v0 := by
    obtain ⟨fuel, hf⟩ := h0
    obtain ⟨a, hx⟩ := kSts.opn hf
    obtain ⟨v, hv, hs⟩ := hx
    rw [e0] at hv ⊢
    simp [Value.cells] at hv
    subst hv
    exact ⟨a, hs⟩
  obtain ⟨a1, rfl, e1, f1, w1⟩ := open_int Tryd.underlying22 (hval 1 22 v1 rfl rfl) h1
  clear hA0 hval0
  refine (walk W v0 a0 w0 a1 w1).mono fun e W' ⟨he, bel⟩ => ?_
  subst he
  exact ⟨_, rfl, _, _, _, [], _, [], hW', trodAll_mk1 (shut_bool Tryd.underlying4 _), (trodAll_cons_mk (Below.trod laidOut (by kernel_rfl) (of_decide_eq_true (by kernel_rfl)) k0 bel lt0) (trodAll_cons_mk (Below.trod laidOut (by kernel_rfl) (of_decide_eq_true (by kernel_rfl)) k1 bel lt1) trodAll_mk0)), rfl, bel.frame _, fun h => by cases h⟩
theorem over : Rows.frameReadsRow.holds Tryd.pinned (OpenSpec.ofChange Rows.frameReadsSpec) :=
  OpenClaim.holds_of_wide 4 Tryd.f4 rfl rfl rfl rfl rfl rfl rfl ⟨rfl, rfl, rfl, rfl, rfl⟩ rfl rfl rfl rfl rfl (by kernel_rfl) Tryd.func4 (by kernel_rfl)
    (of_decide_eq_true (by kernel_rfl)) (by unfold Func.isWrapper; first | (rw [if_pos (by decide +kernel)]; kernel_rfl) | (rw [if_neg (by decide +kernel)]; exact ⟨rfl, rfl⟩))
    (fun os started H enc _ => lifted os started H enc)
theorem proved : Rows.FrameReadsCardSaid :=
  Claim7.holds_tied_plain_at .later [] [.data, .pinned] true (true, "6877f7e2fb9e4bf04a3fec629da088c07fb68b4a07f79f772c5242f81ffe7e52") true over (fun _ h => by cases h) (by kernel_rfl) (fun _ h => by cases h) frameReads_row_tie rfl ⟨rfl, rfl⟩ (by kernel_rfl) rfl
    (fun f fn hf hfn => by
      obtain rfl : f = 4 := Option.some.inj ((show Tryd.prog.funcNamed Rows.frameReadsRow.func = some 4 by kernel_rfl).symm.trans hf) |>.symm
      obtain rfl : fn = Tryd.f4 := (Option.some.inj (Tryd.func4.symm.trans hfn)).symm
      exact ⟨by kernel_rfl, fun j t ht => by
        rw [Tryd.params4] at ht
        have hm : t ∈ [24, 22] := by have h9 := Array.mem_of_getElem? ht; simp at h9 ⊢; omega
        have hall : ([24, 22].all fun u => !Tryd.prog.wantsStandIn u) = true := by kernel_rfl
        exact (show Tryd.prog.wantsStandIn t = false by simpa using List.all_eq_true.1 hall t hm)⟩)
    (by kernel_rfl)
#print axioms proved
end Go.Proofs.YtnplcjcbojjecaaDoor.frameReads
