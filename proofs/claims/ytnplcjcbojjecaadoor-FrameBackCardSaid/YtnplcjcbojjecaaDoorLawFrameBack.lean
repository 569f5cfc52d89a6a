/- A record is read as it was made, whatever stands behind it; without one of its sectors, or with one of another number, it is none. No condition; a longer text than the statement's own limit asks the example alone. -/
import Derived.Test.YtnplcjcbojjecaaDoorRows
import Derived.Test.YtnplcjcbojjecaaDoorCards
import Derived.Test.YtnplcjcbojjecaaDoorTie
import Derived.Test.YtnplcjcbojjecaaDoorFrWakes
import Derived.Test.YtnplcjcbojjecaaDoorFrBackPlain
import Derived.Test.YtnplcjcbojjecaaDoorApp
import Derived.Test.YtnplcjcbojjecaaDoorKeep
import Derived.Test.YtnplcjcbojjecaaDoorRd
import Derived.ProofKit
import Derived.OpenShut
import Derived.ShutString
import Derived.Lay
import Derived.PinnedBridge
import Derived.SevenTiedAt
set_option linter.unusedSimpArgs false
set_option linter.unusedVariables false
namespace Go.Proofs.YtnplcjcbojjecaaDoor.frameBack
open Go.ChangeShapes Go.WideShapes Go.ChangeAt Go.RowKit
open Go.ChangeMaps (open_string shut_string)
def kI3 : Kd Tryd.prog 3 Int := Kd.int Tryd.underlying3 (by kernel_rfl)
def kA3 : Kd Tryd.prog 41 (List Int) := Kd.arr Tryd.underlying41 kI3 3 (by kernel_rfl)
theorem i64_of {n : Int} (h : (Lit.int .i64 n).wf = true) : -9223372036854775808 ≤ n ∧ n ≤ 9223372036854775807 := by
  simpa [Lit.wf, IntKind.min, IntKind.max, IntKind.signed, IntKind.bits] using h
theorem kA3_cells {w : World} {l : List Int} {cs : Array Value} (h : kA3.R w l cs.toList) : ∃ a b c : Int, cs = #[.int .i64 a, .int .i64 b, .int .i64 c] ∧ (-9223372036854775808 ≤ a ∧ a ≤ 9223372036854775807) ∧ (-9223372036854775808 ≤ b ∧ b ≤ 9223372036854775807) := by
  obtain ⟨hl, h3, h⟩ := h
  obtain ⟨cs⟩ := cs
  match l, h3 with
  | [a, b, c], _ =>
    match cs, hl with
    | [c0, c1, c2], _ =>
      have h0 := h 0 a rfl
      have h1 := h 1 b rfl
      have h2 := h 2 c rfl
      simp [kI3, Kd.int] at h0 h1 h2
      exact ⟨a, b, c, by rw [h0.1, h1.1, h2.1], i64_of h0.2, i64_of h1.2⟩
set_option maxRecDepth 100000 in
set_option maxHeartbeats 8000000 in
theorem walk (w : World) (num : Int) (wn : Lit.wf (.int .u32 num) = true) (s : ByteArray) (hs : s.size ≤ maxLen) (cw : Array Value) (lw : List Int) (hw : kA3.R w lw cw.toList) :
    Calls Tryd.prog 5 #[.int .u32 num, .string s, .agg cw] w fun e w' => e = .returned (.bool true) ∧ Below w.heap.size w w' := by
  have hnum : 0 ≤ num ∧ num ≤ 4294967295 := by simpa [Lit.wf, IntKind.min, IntKind.max, IntKind.signed, IntKind.bits] using wn
  obtain ⟨m, rfl⟩ := Int.eq_ofNat_of_zero_le hnum.1
  have hm9 : m < 4294967296 := by omega
  obtain ⟨z0, z1, z2, rfl, hz0, hz1⟩ := kA3_cells hw
  have HZ0 := Lib.hid hz0
  have HZ1 := Lib.hid hz1
  clear hnum wn hw hz0 hz1 hs
  by_cases hbig : 62000 < s.size
  · have g1 : (62000 : Int) < (s.size : Int) := by omega
    go_enter Tryd.func5, Tryd.ntmps5
    have h0 : Below w.heap.size w (w.alloc (.cells #[.int .i64 z0, .int .i64 z1, .int .i64 z2] 41)) := (Below.refl _ _).alloc (Nat.le_refl _) _
    have H0 := Lib.hid h0
    clear h0
    go_wp2_with fail
    refine (wakes10_any _).mono ?_
    rintro e w3 ⟨rfl, hb⟩
    have HB3 := Lib.hid (H0.out.trans (hb.mono H0.out.size))
    clear hb
    go_wp2_with fail
    go_ret
    exact ⟨rfl, HB3.out⟩
  have g1 : ¬ (62000 : Int) < (s.size : Int) := by omega
  go_enter Tryd.func5, Tryd.ntmps5
  go_wp2_with fail
  generalize hw1 : w.alloc _ = w1
  have HC0 : Hid (w1.cell? ⟨w.heap.size, 0, none⟩ = some (.int .i64 z0)) := Lib.hid (by rw [← hw1]; exact (Blk.new w _ _).cell 0)
  have HC1 : Hid (w1.cell? ⟨w.heap.size, 1, none⟩ = some (.int .i64 z1)) := Lib.hid (by rw [← hw1]; exact (Blk.new w _ _).cell 1)
  have HL1 : Hid (w.heap.size < w1.heap.size) := Lib.hid (by rw [← hw1]; simp)
  have HB1 : Hid (Below w.heap.size w w1) := Lib.hid (by rw [← hw1]; exact (Below.refl _ _).alloc (Nat.le_refl _) _)
  clear hw1
  refine (frMake_strs m s _ hm9).mono ?_
  rintro e w3 ⟨v3, rfl, hb3, hs3⟩
  have HB3 := Lib.hid (HB1.out.trans (hb3.mono HB1.out.size))
  have HM3 := Lib.hid hb3
  have HS3 := Lib.hid hs3
  clear hb3 hs3
  by_cases hbad : m = 0 ∨ 60000 < s.size
  · have e2 : (makeF m s).1 = [] := by
      unfold makeF
      by_cases h0 : m = 0
      · rw [if_pos h0]
      · rw [if_neg h0, if_pos (by omega)]
    obtain ⟨er, her⟩ : ∃ er, er = (makeF m s).2 := ⟨_, rfl⟩
    have g2 : (er != 0) = true := by
      rw [her]
      unfold makeF
      by_cases h0 : m = 0
      · rw [if_pos h0]; rfl
      · rw [if_neg h0, if_pos (by omega)]; rfl
    rw [← her]
    rw [e2] at HS3
    obtain ⟨a3, c3, rfl, _, _⟩ := HS3.out
    clear her e2 hbad hbig g1
    go_wp2_with fail
    refine (wakes10_any _).mono ?_
    rintro e w4 ⟨rfl, hb⟩
    have HB4 := Lib.hid (HB3.out.trans (hb.mono HB3.out.size))
    clear hb
    go_wp2_with fail
    go_ret
    exact ⟨rfl, HB4.out⟩
  have h0 : 0 < m := by omega
  have hs6 : s.size ≤ 60000 := by omega
  have hmk : makeF m s = (secsF m s, 0) := makeF_some m s h0 hs6
  rw [hmk] at HS3 ⊢
  obtain ⟨l, hl⟩ : ∃ l, l = secsF m s := ⟨_, rfl⟩
  rw [← hl] at HS3 ⊢
  obtain ⟨a3, c3, rfl, _, hc3⟩ := HS3.out.out
  have hlen : l.length = sizeN s.size := by rw [hl, secsF_len]
  have hp := sizeN_pos s.size
  have hk9 := sizeN_le hs6
  obtain ⟨k, hk⟩ : ∃ k, k = sizeN s.size := ⟨_, rfl⟩
  rw [← hk] at hp hk9 hlen
  rw [hlen] at HS3 ⊢
  have hlp : 0 < l.length := by rw [hlen]; exact hp
  obtain ⟨b1, o1, rfl, k1, k2⟩ := hc3 hlp
  obtain ⟨x0, hx0⟩ : ∃ x, l[0]? = some x := ⟨l[0]'(by omega), List.getElem?_eq_getElem _⟩
  have d0 : w3.cell? ⟨b1, o1, none⟩ = some (.string x0) := k2 0 x0 hx0
  have hp0 : 0 < k := hp
  have HL := Lib.hid hl
  have HLEN := Lib.hid hlen
  have HK := Lib.hid hk
  have HX0 := Lib.hid hx0
  have HCE := Lib.hid k2
  have HS6 := Lib.hid hs6
  have hcap : Hid (k ≤ c3) := Lib.hid (by
    obtain ⟨_, _, h1, h2, _⟩ := HS3.out
    cases h1
    exact h2)
  clear hl hlen hk hx0 k2 hs6 hbad hmk hc3 hbig g1
  go_wp2_with fail
  refine (rfSize_any (s.size : Int) _).mono ?_
  rintro e w4 ⟨rfl, hw4⟩
  have hw4 := hw4.symm
  subst hw4
  rw [sizeF_nat HS6.out, ← HK.out]
  go_wp2_with fail
  refine wp_region_held_drew (S := fun w' => Below w3.heap.size w3 w' ∧ w'.cell? ⟨b1, o1, none⟩ = some (.string x0)) (by kernel_rfl) ⟨(Below.refl _ _).drew, d0⟩ (fun hHeld => ?_)
  refine take_op 1 (some 53) (v := ?_) rfl rfl (by kernel_rfl) (by kernel_rfl) (by kernel_rfl) (fun _ _ _ h => h) (Or.inl ⟨by rfl, ?_⟩) (by assumption) ?_
  rotate_left
  · intro w_ hSw_; (try dsimp only at hSw_); go_simp; (try with_reducible rfl)
  try simp only [Act.put, List.setIfInBounds_toArray, List.set_cons_zero, List.set_cons_succ]
  refine take_op 3 (some 55) (v := ?_) rfl rfl (by kernel_rfl) (by kernel_rfl) (by kernel_rfl) (fun _ _ _ h => h) (Or.inl ⟨by rfl, ?_⟩) (by assumption) ?_
  rotate_left
  · intro w_ hSw_; (try dsimp only at hSw_); go_simp; (try with_reducible rfl)
  try simp only [Act.put, List.setIfInBounds_toArray, List.set_cons_zero, List.set_cons_succ]
  refine take_op 4 (some 56) (v := ?_) rfl rfl (by kernel_rfl) (by kernel_rfl) (by kernel_rfl) (fun _ _ _ h => h) (Or.inl ⟨by rfl, ?_⟩) (by assumption) ?_
  rotate_left
  · intro w_ hSw_; (try dsimp only at hSw_); go_simp; (try with_reducible rfl)
  try simp only [Act.put, List.setIfInBounds_toArray, List.set_cons_zero, List.set_cons_succ]
  refine take_op 5 (some 57) (v := ?_) rfl rfl (by kernel_rfl) (by kernel_rfl) (by kernel_rfl) (fun _ _ _ h => h) (Or.inl ⟨by rfl, ?_⟩) (by assumption) ?_
  rotate_left
  · intro w_ hSw_; (try dsimp only at hSw_); go_simp; (try with_reducible rfl)
  try simp only [Act.put, List.setIfInBounds_toArray, List.set_cons_zero, List.set_cons_succ]
  refine take_op 8 (some 60) (v := ?_) rfl rfl (by kernel_rfl) (by kernel_rfl) (by kernel_rfl) (fun _ _ _ h => h) (Or.inl ⟨by rfl, ?_⟩) (by assumption) ?_
  rotate_left
  · intro w_ hSw_; (try dsimp only at hSw_); go_simp; (try with_reducible rfl)
  try simp only [Act.put, List.setIfInBounds_toArray, List.set_cons_zero, List.set_cons_succ]
  refine wpAnyH_tab (fun w' => Below w3.heap.size w3 w' ∧ w'.cell? ⟨b1, o1, none⟩ = some (.string x0)) [0, 2, 6] 9 [(0, 52, .row #[] 9), (2, 54, .own w3.heap.size 9 k (l.map Value.string)), (6, 58, .row #[.string x0, .string ⟨#[]⟩] 9)] rfl rfl (by kernel_rfl) (fun _ h => h) (fun w1 w2 h hb => ⟨h.1.trans (hb.mono h.1.size), (hb.cell (p := ⟨b1, o1, none⟩) (Nat.lt_of_lt_of_le k1 h.1.size)).trans h.2⟩) (by assumption) ?_ ?_
  · skip
    refine InvSteps.cons rfl (fun xs_ wv hSv hr_ A_ hA_ K_ hK_ => ?_) ?_
    · skip
      simp only [putAll, List.foldl, List.map, Act.put, List.setIfInBounds_toArray, List.set_cons_zero, List.set_cons_succ] at hA_
      subst hA_
      go_simp
      exact hK_.out _ _ _ rfl ⟨_, rfl, Blk.new _ _ _⟩ ((Below.refl _ _).alloc (Nat.le_refl _) _)
    refine InvSteps.cons rfl (fun xs_ wv hSv hr_ A_ hA_ K_ hK_ => ?_) ?_
    · skip
      obtain ⟨b0, e0, B0⟩ := hr_ 0 (by kernel_rfl)
      simp only [e0, putAll, List.foldl, List.map, Act.put, List.setIfInBounds_toArray, List.set_cons_zero, List.set_cons_succ] at hA_
      subst hA_
      refine step_appFresh (some 54) rfl rfl rfl b0 B0 l (by rw [HLEN.out]; omega) (by rw [HLEN.out]; omega) (some ⟨b1, o1, none⟩) k c3 HLEN.out.symm ?_ rfl rfl ?_
      · intro _
        exact ⟨b1, o1, rfl, Nat.lt_of_lt_of_le k1 hSv.1.size, fun j x hj => (hSv.1.cell (p := ⟨b1, o1 + j, none⟩) k1).trans (HCE.out j x hj)⟩
      · intro v' w' hb hown
        rw [HLEN.out] at hown
        exact hK_.out _ _ _ rfl (owns_rebase hown hSv.1.size) hb
    refine InvSteps.cons rfl (fun xs_ wv hSv hr_ A_ hA_ K_ hK_ => ?_) ?_
    · skip
      simp only [putAll, List.foldl, List.map, Act.put, List.setIfInBounds_toArray, List.set_cons_zero, List.set_cons_succ] at hA_
      subst hA_
      have hHc := hSv.2
      go_simp
      exact hK_.out _ _ _ rfl ⟨_, rfl, Blk.new _ _ _⟩ ((Below.refl _ _).alloc (Nat.le_refl _) _)
    exact InvSteps.nil
  intro xs_ wv hSv hr_ A_ hA_
  have O2 : wv.ownsRow w3.heap.size 9 1 (xs_ 2) k (l.map Value.string) := hr_ 2
  obtain ⟨b0, e0, B0⟩ := hr_ 0
  obtain ⟨b6, e6, B6⟩ := hr_ 6
  simp only [e0, e6, putAll, List.foldl, List.map, Act.put, List.setIfInBounds_toArray, List.set_cons_zero, List.set_cons_succ] at hA_
  subst hA_
  clear hr_ e0 B0 e6
  generalize xs_ 2 = v54 at O2
  refine go_op 7 rfl (by kernel_rfl) (fun K_ hK_ => ?_)
  refine step_appStrs (some 59) rfl rfl rfl w3.heap.size v54 k l [x0, ⟨#[]⟩] (some ⟨b6, 0, none⟩) 2 2 rfl O2 ?_ (by omega) hSv.1.size rfl rfl ?_
  · intro _
    refine ⟨b6, 0, rfl, B6.lt, fun j x hj => ?_⟩
    rw [Nat.zero_add, B6.cell j]
    match j with
    | 0 => simp at hj; subst hj; rfl
    | 1 => simp at hj; subst hj; rfl
    | j + 2 => simp at hj
  intro v59 w5 hown5 hgrow5 _
  have hbl := owns_block O2
  have HB5 := Lib.hid (hSv.1.trans (below_grown hgrow5 hSv.1.size (fun q hq => by have := hbl q hq; omega)))
  have HO5 : Hid (StrsAt w5 v59 (l ++ [x0, ⟨#[]⟩])) := Lib.hid (StrsAt.own hown5 (by simp; exact HLEN.out.symm) (by omega))
  have c5 : w5.cell? ⟨b1, o1, none⟩ = some (.string x0) := (HB5.out.cell (p := ⟨b1, o1, none⟩) k1).trans d0
  clear hown5 hgrow5 hbl O2 B6 hSv hHeld
  simp only [Act.put, List.setIfInBounds_toArray, List.set_cons_zero, List.set_cons_succ]
  refine hK_.out _ _ ⟨HB5.out, c5⟩ (fun hHeld_ => ?_)
  refine go_op 9 rfl (by kernel_rfl) (fun K_ hK_ => ?_)
  go_simp
  have hsz : Hid (∀ x ∈ l, x.size = 256) := Lib.hid (fun x hx => by rw [HL.out] at hx; exact secsF_size hx)
  refine (frRead_strs v59 (l ++ [x0, ⟨#[]⟩]) m hm9 (by simp; have := HLEN.out; omega) ?_ w5 HO5.out).mono ?_
  · intro x hx
    rcases List.mem_append.1 hx with h | h
    · have := hsz.out x h; omega
    · simp at h
      rcases h with h | h
      · rw [h, hsz.out x0 (List.mem_of_getElem? HX0.out)]; omega
      · rw [h]; decide
  rintro e w6 ⟨rfl, hb6⟩
  have hread : readF (l ++ [x0, ⟨#[]⟩]) m = (s, k, true) := by rw [HL.out, readF_make m s _ h0 hm9 HS6.out, ← HK.out]
  rw [hread]
  dsimp only [got3]
  have HB6 := Lib.hid (HB5.out.trans (hb6.mono HB5.out.size))
  have c6 : w6.cell? ⟨b1, o1, none⟩ = some (.string x0) := (HB6.out.cell (p := ⟨b1, o1, none⟩) k1).trans d0
  clear hb6 hread HO5 HB5 c5 hHeld_ hlp
  try simp only [Act.put, List.setIfInBounds_toArray, List.set_cons_zero, List.set_cons_succ]
  refine hK_.out _ _ ⟨HB6.out, c6⟩ (fun hHeld => ?_)
  refine take_op 10 (some 51) (v := ?_) rfl rfl (by kernel_rfl) (by kernel_rfl) (by kernel_rfl) (fun _ _ _ h => h) (Or.inl ⟨by rfl, ?_⟩) (by assumption) ?_
  rotate_left
  · intro w_ hSw_; (try dsimp only at hSw_); go_simp; (try with_reducible rfl)
  try simp only [Act.put, List.setIfInBounds_toArray, List.set_cons_zero, List.set_cons_succ]
  refine take_op 11 (some 62) (v := ?_) rfl rfl (by kernel_rfl) (by kernel_rfl) (by kernel_rfl) (fun _ _ _ h => h) (Or.inl ⟨by rfl, ?_⟩) (by assumption) ?_
  rotate_left
  · intro w_ hSw_; (try dsimp only at hSw_); go_simp; (try with_reducible rfl)
  try simp only [Act.put, List.setIfInBounds_toArray, List.set_cons_zero, List.set_cons_succ]
  refine take_op 12 (some 63) (v := ?_) rfl rfl (by kernel_rfl) (by kernel_rfl) (by kernel_rfl) (fun _ _ _ h => h) (Or.inl ⟨by rfl, ?_⟩) (by assumption) ?_
  rotate_left
  · intro w_ hSw_; (try dsimp only at hSw_); go_simp; (try with_reducible rfl)
  try simp only [Act.put, List.setIfInBounds_toArray, List.set_cons_zero, List.set_cons_succ]
  refine take_op 13 (some 64) (v := ?_) rfl rfl (by kernel_rfl) (by kernel_rfl) (by kernel_rfl) (fun _ _ _ h => h) (Or.inl ⟨by rfl, ?_⟩) (by assumption) ?_
  rotate_left
  · intro w_ hSw_; (try dsimp only at hSw_); go_simp; (try with_reducible rfl)
  try simp only [Act.put, List.setIfInBounds_toArray, List.set_cons_zero, List.set_cons_succ]
  refine take_op 14 (some 9) (v := ?_) rfl rfl (by kernel_rfl) (by kernel_rfl) (by kernel_rfl) (fun _ _ _ h => h) (Or.inl ⟨by rfl, ?_⟩) (by assumption) ?_
  rotate_left
  · intro w_ hSw_; (try dsimp only at hSw_); go_simp; (try with_reducible rfl)
  try simp only [Act.put, List.setIfInBounds_toArray, List.set_cons_zero, List.set_cons_succ]
  refine take_op 15 (some 10) (v := ?_) rfl rfl (by kernel_rfl) (by kernel_rfl) (by kernel_rfl) (fun _ _ _ h => h) (Or.inl ⟨by rfl, ?_⟩) (by assumption) ?_
  rotate_left
  · intro w_ hSw_; (try dsimp only at hSw_); go_simp; (try with_reducible rfl)
  try simp only [Act.put, List.setIfInBounds_toArray, List.set_cons_zero, List.set_cons_succ]
  refine take_op 16 (some 11) (v := ?_) rfl rfl (by kernel_rfl) (by kernel_rfl) (by kernel_rfl) (fun _ _ _ h => h) (Or.inl ⟨by rfl, ?_⟩) (by assumption) ?_
  rotate_left
  · intro w_ hSw_; (try dsimp only at hSw_); go_simp; (try with_reducible rfl)
  try simp only [Act.put, List.setIfInBounds_toArray, List.set_cons_zero, List.set_cons_succ]
  refine wpAnyH_done (by kernel_rfl) ?_ _
  clear hHeld c6 d0
  have HM6 := Lib.hid (HM3.out.trans (HB6.out.mono HM3.out.size))
  have e0 : w6.cell? ⟨w.heap.size, 0, none⟩ = some (.int .i64 z0) := (HM6.out.cell (p := ⟨w.heap.size, 0, none⟩) HL1.out).trans HC0.out
  have e1 : w6.cell? ⟨w.heap.size, 1, none⟩ = some (.int .i64 z1) := (HM6.out.cell (p := ⟨w.heap.size, 1, none⟩) HL1.out).trans HC1.out
  go_wp2_with fail
  refine wp_region_held_drew (S := fun w' => w'.cell? ⟨w.heap.size, 0, none⟩ = some (.int .i64 z0) ∧ w'.cell? ⟨w.heap.size, 1, none⟩ = some (.int .i64 z1)) (by kernel_rfl) ⟨e0, e1⟩ (fun hHeld => ?_)
  obtain ⟨m1, hm1⟩ : ∃ n : Nat, IntKind.u32.wrap ((m : Int) + 1) = (n : Int) := ⟨(m + 1) % 4294967296, by rw [IntKind.wrap_u32]; omega⟩
  obtain ⟨at_, hat⟩ : ∃ n : Nat, z0 % (k : Int) = (n : Int) := ⟨(z0 % (k : Int)).toNat, by have := Int.emod_nonneg z0 (show (k : Int) ≠ 0 by omega); omega⟩
  have hatk : at_ < k := by have := Int.emod_lt_of_pos z0 (show (0 : Int) < k by omega); omega
  obtain ⟨r1, hr1⟩ : ∃ n : Nat, z1 % 1000 = (n : Int) := ⟨(z1 % 1000).toNat, by omega⟩
  have hr9 : r1 < 1000 := by omega
  have mr : IntKind.u32.wrap (r1 : Int) = (r1 : Int) := by rw [IntKind.wrap_u32]; omega
  obtain ⟨other, ho⟩ : ∃ n : Nat, IntKind.u32.wrap ((m1 : Int) + (r1 : Int)) = (n : Int) := ⟨(m1 + r1) % 4294967296, by rw [IntKind.wrap_u32]; omega⟩
  have ho9 : other < 4294967296 := by rw [IntKind.wrap_u32] at ho; omega
  have HAT := Lib.hid hat
  have HR1 := Lib.hid hr1
  clear hat hr1
  refine take_op 0 (some 78) (v := ?_) rfl rfl (by kernel_rfl) (by kernel_rfl) (by kernel_rfl) (fun _ _ _ h => h) (Or.inl ⟨by rfl, ?_⟩) (by assumption) ?_
  rotate_left
  · intro w_ hSw_; (try dsimp only at hSw_); go_simp; (try with_reducible rfl)
  try simp only [Act.put, List.setIfInBounds_toArray, List.set_cons_zero, List.set_cons_succ]
  refine take_op 1 (some 79) (v := ?_) rfl rfl (by kernel_rfl) (by kernel_rfl) (by kernel_rfl) (fun _ _ _ h => h) (Or.inl ⟨by rfl, ?_⟩) (by assumption) ?_
  rotate_left
  · intro w_ hSw_; (try dsimp only at hSw_); go_simp; (try with_reducible rfl)
  try simp only [Act.put, List.setIfInBounds_toArray, List.set_cons_zero, List.set_cons_succ]
  refine take_op 2 (some 80) (v := ?_) rfl rfl (by kernel_rfl) (by kernel_rfl) (by kernel_rfl) (fun _ _ _ h => h) (Or.inl ⟨by rfl, ?_⟩) (by assumption) ?_
  rotate_left
  · intro w_ hSw_; (try dsimp only at hSw_); go_simp; (try with_reducible rfl)
  try simp only [Act.put, List.setIfInBounds_toArray, List.set_cons_zero, List.set_cons_succ]
  refine take_op 3 (some 81) (v := ?_) rfl rfl (by kernel_rfl) (by kernel_rfl) (by kernel_rfl) (fun _ _ _ h => h) (Or.inl ⟨by rfl, ?_⟩) (by assumption) ?_
  rotate_left
  · intro w_ hSw_; (try dsimp only at hSw_); go_simp; (try with_reducible rfl)
  try simp only [Act.put, List.setIfInBounds_toArray, List.set_cons_zero, List.set_cons_succ]
  refine take_op 5 (some 83) (v := ?_) rfl rfl (by kernel_rfl) (by kernel_rfl) (by kernel_rfl) (fun _ _ _ h => h) (Or.inl ⟨by rfl, ?_⟩) (by assumption) ?_
  rotate_left
  · intro w_ hSw_; (try dsimp only at hSw_); go_simp; (try with_reducible rfl)
  try simp only [Act.put, List.setIfInBounds_toArray, List.set_cons_zero, List.set_cons_succ]
  refine take_op 6 (some 84) (v := ?_) rfl rfl (by kernel_rfl) (by kernel_rfl) (by kernel_rfl) (fun _ _ _ h => h) (Or.inl ⟨by rfl, ?_⟩) (by assumption) ?_
  rotate_left
  · intro w_ hSw_; (try dsimp only at hSw_); go_simp; (try with_reducible rfl)
  try simp only [Act.put, List.setIfInBounds_toArray, List.set_cons_zero, List.set_cons_succ]
  refine take_op 7 (some 85) (v := ?_) rfl rfl (by kernel_rfl) (by kernel_rfl) (by kernel_rfl) (fun _ _ _ h => h) (Or.inl ⟨by rfl, ?_⟩) (by assumption) ?_
  rotate_left
  · intro w_ hSw_; (try dsimp only at hSw_); go_simp; (try with_reducible rfl)
  try simp only [Act.put, List.setIfInBounds_toArray, List.set_cons_zero, List.set_cons_succ]
  refine take_op 8 (some 86) (v := ?_) rfl rfl (by kernel_rfl) (by kernel_rfl) (by kernel_rfl) (fun _ _ _ h => h) (Or.inl ⟨by rfl, ?_⟩) (by assumption) ?_
  rotate_left
  · intro w_ hSw_; (try dsimp only at hSw_); go_simp; (try with_reducible rfl)
  try simp only [Act.put, List.setIfInBounds_toArray, List.set_cons_zero, List.set_cons_succ]
  refine go_op 4 rfl (by kernel_rfl) (fun K_ hK_ => ?_)
  go_simp
  refine (keepMod_any z0 (k : Int) HZ0.out (by omega) (by omega) _).mono ?_
  rintro e w7 ⟨rfl, hw7⟩
  have hw7 := hw7.symm
  subst hw7
  rw [HAT.out]
  simp only [Act.put, List.setIfInBounds_toArray, List.set_cons_zero, List.set_cons_succ]
  refine hK_.out _ _ hHeld (fun hHeld_ => ?_)
  refine go_op 9 rfl (by kernel_rfl) (fun K_ hK_ => ?_)
  go_simp
  refine (keepMod_any z1 1000 HZ1.out (by omega) (by omega) _).mono ?_
  rintro e w7 ⟨rfl, hw7⟩
  have hw7 := hw7.symm
  subst hw7
  rw [HR1.out]
  simp only [Act.put, List.setIfInBounds_toArray, List.set_cons_zero, List.set_cons_succ]
  refine hK_.out _ _ hHeld (fun hHeld_ => ?_)
  refine take_op 10 (some 88) (v := ?_) rfl rfl (by kernel_rfl) (by kernel_rfl) (by kernel_rfl) (fun _ _ _ h => h) (Or.inl ⟨by rfl, ?_⟩) (by assumption) ?_
  rotate_left
  · intro w_ hSw_; (try dsimp only at hSw_); go_simp; (try with_reducible rfl)
  try simp only [Act.put, List.setIfInBounds_toArray, List.set_cons_zero, List.set_cons_succ]
  refine take_op 11 (some 89) (v := ?_) rfl rfl (by kernel_rfl) (by kernel_rfl) (by kernel_rfl) (fun _ _ _ h => h) (Or.inl ⟨by rfl, ?_⟩) (by assumption) ?_
  rotate_left
  · intro w_ hSw_; (try dsimp only at hSw_); go_simp; (try with_reducible rfl)
  try simp only [Act.put, List.setIfInBounds_toArray, List.set_cons_zero, List.set_cons_succ]
  refine take_op 12 (some 12) (v := ?_) rfl rfl (by kernel_rfl) (by kernel_rfl) (by kernel_rfl) (fun _ _ _ h => h) (Or.inl ⟨by rfl, ?_⟩) (by assumption) ?_
  rotate_left
  · intro w_ hSw_; (try dsimp only at hSw_); go_simp; (try with_reducible rfl)
  try simp only [Act.put, List.setIfInBounds_toArray, List.set_cons_zero, List.set_cons_succ]
  refine take_op 13 (some 13) (v := ?_) rfl rfl (by kernel_rfl) (by kernel_rfl) (by kernel_rfl) (fun _ _ _ h => h) (Or.inl ⟨by rfl, ?_⟩) (by assumption) ?_
  rotate_left
  · intro w_ hSw_; (try dsimp only at hSw_); go_simp; (try with_reducible rfl)
  try simp only [Act.put, List.setIfInBounds_toArray, List.set_cons_zero, List.set_cons_succ]
  refine wpAnyH_done (by kernel_rfl) ?_ _
  clear hHeld hHeld_ hm1 mr ho e0 e1 hr9
  have HB7 := Lib.hid HB6.out.drew
  clear HB6 HM6 HC0 HC1 HL1 HZ0 HZ1
  generalize w6.drew = w7 at HB7
  go_wp2_with fail
  refine wp_region_held_drew (S := fun w' => Below w3.heap.size w3 w') (by kernel_rfl) HB7.out.drew (fun hHeld => ?_)
  obtain ⟨a1, ha1⟩ : ∃ a1, a1 = at_ + 1 := ⟨_, rfl⟩
  have ml : IntKind.i64.wrap ((at_ : Int) + 1) = (a1 : Int) := by rw [IntKind.wrap_i64]; omega
  have p1 : (at_ : Int) ≤ (c3 : Int) := by have := hcap.out; omega
  have p2 : (a1 : Int) ≤ (k : Int) := by omega
  have p3 : (k : Int) ≤ (c3 : Int) := by have := hcap.out; omega
  have p4 : ¬ c3 = 0 := by have := hcap.out; omega
  obtain ⟨ad, had⟩ : ∃ ad : Addr, (c3 = a1 → ad = ⟨b1, o1, none⟩) ∧ (¬ c3 = a1 → ad = ⟨b1, o1 + a1, none⟩) := by
    by_cases h : c3 = a1
    · exact ⟨_, fun _ => rfl, fun h' => absurd h h'⟩
    · exact ⟨_, fun h' => absurd h' h, fun _ => rfl⟩
  have HAD := Lib.hid had
  have HA1 := Lib.hid ha1
  clear had ha1
  refine take_op 1 (some 91) (v := ?_) rfl rfl (by kernel_rfl) (by kernel_rfl) (by kernel_rfl) (fun _ _ _ h => h) (Or.inl ⟨by rfl, ?_⟩) (by assumption) ?_
  rotate_left
  · intro w_ hSw_; (try dsimp only at hSw_); go_simp; (try with_reducible rfl)
  try simp only [Act.put, List.setIfInBounds_toArray, List.set_cons_zero, List.set_cons_succ]
  refine take_op 2 (some 92) (v := ?_) rfl rfl (by kernel_rfl) (by kernel_rfl) (by kernel_rfl) (fun _ _ _ h => h) (Or.inl ⟨by rfl, ?_⟩) (by assumption) ?_
  rotate_left
  · intro w_ hSw_; (try dsimp only at hSw_); go_simp; (try with_reducible rfl)
  try simp only [Act.put, List.setIfInBounds_toArray, List.set_cons_zero, List.set_cons_succ]
  refine take_op 3 (some 93) (v := ?_) rfl rfl (by kernel_rfl) (by kernel_rfl) (by kernel_rfl) (fun _ _ _ h => h) (Or.inl ⟨by rfl, ?_⟩) (by assumption) ?_
  rotate_left
  · intro w_ hSw_; (try dsimp only at hSw_); go_simp; (try with_reducible rfl)
  try simp only [Act.put, List.setIfInBounds_toArray, List.set_cons_zero, List.set_cons_succ]
  refine take_op 5 (some 95) (v := ?_) rfl rfl (by kernel_rfl) (by kernel_rfl) (by kernel_rfl) (fun _ _ _ h => h) (Or.inl ⟨by rfl, ?_⟩) (by assumption) ?_
  rotate_left
  · intro w_ hSw_; (try dsimp only at hSw_); go_simp; (try with_reducible rfl)
  try simp only [Act.put, List.setIfInBounds_toArray, List.set_cons_zero, List.set_cons_succ]
  refine take_op 6 (some 96) (v := ?_) rfl rfl (by kernel_rfl) (by kernel_rfl) (by kernel_rfl) (fun _ _ _ h => h) (Or.inl ⟨by rfl, ?_⟩) (by assumption) ?_
  rotate_left
  · intro w_ hSw_; (try dsimp only at hSw_); go_simp; (try with_reducible rfl)
  try simp only [Act.put, List.setIfInBounds_toArray, List.set_cons_zero, List.set_cons_succ]
  refine take_op 7 (some 97) (v := ?_) rfl rfl (by kernel_rfl) (by kernel_rfl) (by kernel_rfl) (fun _ _ _ h => h) (Or.inl ⟨by rfl, ?_⟩) (by assumption) ?_
  rotate_left
  · intro w_ hSw_; (try dsimp only at hSw_); go_simp; (try with_reducible rfl)
  try simp only [Act.put, List.setIfInBounds_toArray, List.set_cons_zero, List.set_cons_succ]
  refine take_op 8 (some 98) (v := .slice (some ad) (k - a1) (c3 - a1)) rfl rfl (by kernel_rfl) (by kernel_rfl) (by kernel_rfl) (fun _ _ _ h => h) (Or.inl ⟨by rfl, ?_⟩) (by assumption) ?_
  · intro w_ hSw_
    by_cases hca : c3 = a1
    · rw [HAD.out.1 hca]; go_simp; (try with_reducible rfl)
    · rw [HAD.out.2 hca]; go_simp; (try with_reducible rfl)
  simp only [Act.put, List.setIfInBounds_toArray, List.set_cons_zero, List.set_cons_succ]
  clear ml p1 p2 p3 p4
  refine go_op 0 rfl (by kernel_rfl) (fun K_ hK_ => ?_)
  go_simp
  have hu := (Blk.new w7 #[] 9).drew
  have hb8 : Below w3.heap.size w3 (w7.alloc (.cells #[] 9)).drew := (HB7.out.alloc HB7.out.size _).drew
  generalize (w7.alloc (.cells #[] 9)).drew = w8 at hu hb8
  refine hK_.out _ _ hb8 (fun hHeld_ => ?_)
  have own8 : w8.ownsRow w3.heap.size 9 1 (.slice (some ⟨w7.heap.size, 0, none⟩) 0 0) 0 (([] : List ByteArray).map Value.string) :=
    ⟨rfl, .inr ⟨w7.heap.size, 0, #[], rfl, HB7.out.size, hu.out, by simp, by simp, rfl, rfl⟩⟩
  clear hHeld
  refine go_op 4 rfl (by kernel_rfl) (fun K_ hK_ => ?_)
  refine step_appStrs (some 94) rfl rfl rfl w3.heap.size _ 0 [] (l.take at_) (some ⟨b1, o1, none⟩) at_ c3 (by rw [List.length_take, HLEN.out]; omega) own8 ?_ (by omega) hb8.size rfl rfl ?_
  · intro _
    refine ⟨b1, o1, rfl, Nat.lt_of_lt_of_le k1 hb8.size, fun j x hj => (hb8.cell (p := ⟨b1, o1 + j, none⟩) k1).trans (HCE.out j x ?_)⟩
    rw [List.getElem?_take] at hj
    split at hj
    · exact hj
    · cases hj
  intro v94 w9 own9 hgrow9 _
  have hbl := owns_block own8
  have hb9 : Below w3.heap.size w3 w9 := hb8.trans (below_grown hgrow9 hb8.size (fun q hq => by have := hbl q hq; omega))
  clear hbl hgrow9 own8 hu
  simp only [Act.put, List.setIfInBounds_toArray, List.set_cons_zero, List.set_cons_succ]
  refine hK_.out _ _ hb9 (fun hHeld_ => ?_)
  refine go_op 9 rfl (by kernel_rfl) (fun K_ hK_ => ?_)
  refine step_appStrs (some 99) rfl rfl rfl w3.heap.size v94 (0 + at_) ([] ++ l.take at_) (l.drop a1) (some ad) (k - a1) (c3 - a1) (by rw [List.length_drop, HLEN.out]) own9 ?_ (by omega) hb9.size rfl rfl ?_
  · intro hpos
    rw [List.length_drop, HLEN.out] at hpos
    have hca : ¬ c3 = a1 := by have := hcap.out; omega
    refine ⟨b1, o1 + a1, by rw [HAD.out.2 hca], Nat.lt_of_lt_of_le k1 hb9.size, fun j x hj => ?_⟩
    rw [List.getElem?_drop] at hj
    have := (hb9.cell (p := ⟨b1, o1 + (a1 + j), none⟩) k1).trans (HCE.out (a1 + j) x hj)
    rw [Nat.add_assoc]; exact this
  intro v99 w10 own10 hgrow10 _
  have hbl := owns_block own9
  have hb10 : Below w3.heap.size w3 w10 := hb9.trans (below_grown hgrow10 hb9.size (fun q hq => by have := hbl q hq; omega))
  have HB10 := Lib.hid hb10
  have HS10 : Hid (StrsAt w10 v99 (l.take at_ ++ l.drop (at_ + 1))) := Lib.hid (by
    rw [← HA1.out]
    exact StrsAt.own own10 (by simp only [List.length_append, List.length_nil, List.length_take, List.length_drop, HLEN.out]; omega) (by omega))
  clear hbl hgrow10 own9 own10 hb9 hb10
  simp only [Act.put, List.setIfInBounds_toArray, List.set_cons_zero, List.set_cons_succ]
  refine hK_.out _ _ HB10.out (fun hHeld_ => ?_)
  refine go_op 10 rfl (by kernel_rfl) (fun K_ hK_ => ?_)
  go_simp
  refine hK_.out _ _ HB10.out (fun hHeld_ => ?_)
  refine wpAnyH_done (by kernel_rfl) ?_ _
  clear hHeld_
  go_wp2_with fail
  refine (frRead_strs v99 (l.take at_ ++ l.drop (at_ + 1)) m hm9 (by rw [List.length_append, List.length_take, List.length_drop, HLEN.out]; omega) (fun x hx => ?_) w10 HS10.out).mono ?_
  · have : x ∈ l := by
      rcases List.mem_append.1 hx with h | h
      · exact List.mem_of_mem_take h
      · exact List.mem_of_mem_drop h
    have := hsz.out x this; omega
  rintro e w11 ⟨rfl, hb11⟩
  have hshort : readF (l.take at_ ++ l.drop (at_ + 1)) m = none3 := by rw [HL.out]; exact readF_short m s HS6.out at_ (by rw [← HK.out]; exact hatk)
  rw [hshort]
  dsimp only [got3]
  have HB11 := Lib.hid (HB10.out.trans (hb11.mono HB10.out.size))
  clear hb11 hshort HS10 HB10 HAD HA1 HB7
  by_cases ho0 : other = 0
  · have g5 : ((other : Int) == 0) = true := by rw [ho0]; rfl
    clear ho0
    go_wp2_with fail
    refine (wakes10_any _).mono ?_
    rintro e w12 ⟨rfl, hb12⟩
    have HB12 := Lib.hid (HB3.out.trans ((HB11.out.trans (hb12.mono HB11.out.size)).mono HB3.out.size))
    clear hb12
    go_wp2_with fail
    go_ret
    exact ⟨rfl, HB12.out⟩
  have g5 : ((other : Int) == 0) = false := by simpa using (by omega : ¬ ((other : Int) = 0))
  by_cases hom : other = m
  · have g6 : ((other : Int) == (m : Int)) = true := by rw [hom]; simp
    clear hom ho0
    go_wp2_with fail
    refine (wakes10_any _).mono ?_
    rintro e w12 ⟨rfl, hb12⟩
    have HB12 := Lib.hid (HB3.out.trans ((HB11.out.trans (hb12.mono HB11.out.size)).mono HB3.out.size))
    clear hb12
    go_wp2_with fail
    go_ret
    exact ⟨rfl, HB12.out⟩
  have g6 : ((other : Int) == (m : Int)) = false := by simpa using (by omega : ¬ ((other : Int) = (m : Int)))
  go_wp2_with fail
  refine (frMake_strs other s _ ho9).mono ?_
  rintro e w12 ⟨v12, rfl, hb12, hs12⟩
  have hmo : makeF other s = (secsF other s, 0) := makeF_some other s (by omega) HS6.out
  rw [hmo] at hs12 ⊢
  have HB12 := Lib.hid (HB11.out.trans (hb12.mono HB11.out.size))
  obtain ⟨a12, c12, rfl, _, hc12⟩ := hs12.out
  rw [secsF_len, ← HK.out] at hc12 ⊢
  obtain ⟨b2, o2, rfl, l1, l2⟩ := hc12 (by omega)
  have hx9 : (secsF other s)[at_]? = some (secF other at_ (sizeN s.size) (allF s)) := secsF_get other s at_ (by rw [← HK.out]; exact hatk)
  obtain ⟨x9, hxx9⟩ : ∃ x, x = secF other at_ (sizeN s.size) (allF s) := ⟨_, rfl⟩
  rw [← hxx9] at hx9
  have HD12 := Lib.hid (l2 at_ x9 hx9)
  have HL12 := Lib.hid l1
  have HX9 := Lib.hid hxx9
  clear hb12 hs12 hc12 l2 hx9 hxx9 hmo l1
  have hsrc : Hid (0 < l.length → ∃ b o, (some ⟨b1, o1, none⟩ : Option Addr) = some ⟨b, o, none⟩ ∧ b < (w12.alloc (.cells #[] 9)).heap.size ∧ ∀ (j : Nat) x, l[j]? = some x → (w12.alloc (.cells #[] 9)).cell? ⟨b, o + j, none⟩ = some (.string x)) := Lib.hid (fun _ => by
    have h9 : Below w3.heap.size w3 (w12.alloc (.cells #[] 9)) := HB12.out.alloc HB12.out.size _
    exact ⟨b1, o1, rfl, Nat.lt_of_lt_of_le k1 h9.size, fun j x hj => (h9.cell (p := ⟨b1, o1 + j, none⟩) k1).trans (HCE.out j x hj)⟩)
  have ho1 : Hid ((w12.alloc (.cells #[] 9)).ownsRow w12.heap.size 9 1 (.slice (some ⟨w12.heap.size, 0, none⟩) 0 0) 0 (([] : List ByteArray).map Value.string)) :=
    Lib.hid ⟨rfl, .inr ⟨w12.heap.size, 0, #[], rfl, Nat.le_refl _, heap_alloc_last w12 _, by simp, by simp, rfl, rfl⟩⟩
  have hb1x : Hid (Below w12.heap.size w12 (w12.alloc (.cells #[] 9))) := Lib.hid ((Below.refl _ _).alloc (Nat.le_refl _) _)
  have HLENS : Hid (k = l.length) := Lib.hid HLEN.out.symm
  have hstep : Hid (∀ v13 w13, w13.ownsRow w12.heap.size 9 1 v13 (0 + k) (([] ++ l).map Value.string) → (w12.alloc (.cells #[] 9)).grownBy w13 (Value.slice (some ⟨w12.heap.size, 0, none⟩) 0 0).ownBlock →
      ∃ gb cp y, v13 = .slice (some ⟨gb, 0, none⟩) k cp ∧ w12.heap.size ≤ gb ∧ w13.cell? ⟨gb, at_, none⟩ = some (.string y) ∧ w13.frozen? ⟨gb, at_, none⟩ = false ∧ w13.cell? ⟨b2, o2 + at_, none⟩ = some (.string x9) ∧
        Hid (Below w12.heap.size w12 w13) ∧ Hid (∀ x, (w13.setCell ⟨gb, at_, none⟩ (.string x)).ownsRow w12.heap.size 9 1 (.slice (some ⟨gb, 0, none⟩) k cp) k ((l.set at_ x).map Value.string))) := Lib.hid (by
    intro v13 w13 own13 hg13
    have hB13 : Below w12.heap.size w12 w13 := hb1x.out.trans (below_grown hg13 hb1x.out.size (fun q hq => by cases hq; exact Nat.le_refl _))
    rw [Nat.zero_add, List.nil_append] at own13
    obtain ⟨gb, cp, y, rfl, hg1, hg2, hg3, hg4, hg5⟩ := own_set own13 at_ hatk
    exact ⟨gb, cp, y, rfl, hg1, hg3, hg4, (hB13.cell (p := ⟨b2, o2 + at_, none⟩) HL12.out).trans HD12.out, Lib.hid hB13, Lib.hid hg5⟩)
  go_wp2_with (first | ((with_reducible refine at_appStrs w12.heap.size (.slice (some ⟨w12.heap.size, 0, none⟩) 0 0) 0 [] l (some ⟨b1, o1, none⟩) k c3 HLENS.out ho1.out hsrc.out ?_ hb1x.out.size ?_ ?_ ?_); omega; exact rfl; exact rfl; intro v13 w13 own13 hg13 hv13; obtain ⟨gb, cp, y, rfl, hg1, hg3, hg4, hcc, HB13, HOWN⟩ := hstep.out v13 w13 own13 hg13; clear own13 hg13 hv13) | fail)
  have hb14 : Below w3.heap.size w3 (w13.setCell ⟨gb, at_, none⟩ (.string x9)) := (HB12.out.trans (HB13.out.mono HB12.out.size)).setCell (p := ⟨gb, at_, none⟩) (Nat.le_trans HB12.out.size hg1) _
  have own14 := HOWN.out x9
  clear hg3 hg4 hcc HB13 HOWN hstep ho1 hsrc hb1x
  generalize w13.setCell ⟨gb, at_, none⟩ (.string x9) = w14 at hb14 own14
  have hmix : l.set at_ x9 = mixF m other s at_ := by rw [HX9.out, HL.out]; rfl
  rw [hmix] at own14
  have hml : (mixF m other s at_).length = k := by rw [← hmix, List.length_set, HLEN.out]
  have hms : ∀ x ∈ mixF m other s at_, x.size ≤ 100000 := fun x hx => by
    rcases mixF_mem (by rw [← HK.out]; exact hatk) hx with h | h
    · rw [secsF_size h]; omega
    · rw [secsF_size h]; omega
  have hst := StrsAt.own own14 hml.symm (by omega)
  have HB14 := Lib.hid hb14
  have HST := Lib.hid hst
  have HMS := Lib.hid hms
  have HML := Lib.hid hml
  clear own14 hst hb14 hms hml hmix
  refine (frRead_strs _ (mixF m other s at_) m hm9 (by rw [HML.out]; omega) HMS.out w14 HST.out).mono ?_
  rintro e w15 ⟨rfl, hb15⟩
  rw [readF_mix m other s HS6.out ho9 hom at_ (by rw [← HK.out]; exact hatk)]
  dsimp only [got3]
  have HB15 := Lib.hid (HB14.out.trans (hb15.mono HB14.out.size))
  have HST2 := Lib.hid (HST.out.below hb15)
  clear hb15 HST HB14
  go_wp2_with fail
  refine (frRead_strs _ (mixF m other s at_) other ho9 (by rw [HML.out]; omega) HMS.out w15 HST2.out).mono ?_
  rintro e w16 ⟨rfl, hb16⟩
  have hrb := readF_mix_other m other s HS6.out hm9 (by omega) ho9 hom at_ (by rw [← HK.out]; exact hatk)
  rw [← HK.out] at hrb
  obtain ⟨r, hr⟩ : ∃ r, r = readF (mixF m other s at_) other := ⟨_, rfl⟩
  rw [← hr] at hrb ⊢
  clear hr
  obtain ⟨rs, rn, rb⟩ := r
  dsimp only [got3] at hrb ⊢
  have HB16 := Lib.hid (HB15.out.trans (hb16.mono HB15.out.size))
  clear hb16 HST2 HB15
  by_cases hk1 : k = 1
  · have g7 : ((k : Int) == 1) = true := by rw [hk1]; rfl
    rw [decide_eq_true hk1] at hrb
    subst hrb
    clear hk1
    go_wp2_with fail
    refine (wakes10_any _).mono ?_
    rintro e w17 ⟨rfl, hb17⟩
    have HB17 := Lib.hid (HB3.out.trans ((HB16.out.trans (hb17.mono HB16.out.size)).mono HB3.out.size))
    clear hb17
    go_wp2_with fail
    go_ret
    exact ⟨rfl, HB17.out⟩
  · have g7 : ((k : Int) == 1) = false := by simpa using (by omega : ¬ ((k : Int) = 1))
    rw [decide_eq_false hk1] at hrb
    subst hrb
    clear hk1
    go_wp2_with fail
    refine (wakes10_any _).mono ?_
    rintro e w17 ⟨rfl, hb17⟩
    have HB17 := Lib.hid (HB3.out.trans ((HB16.out.trans (hb17.mono HB16.out.size)).mono HB3.out.size))
    clear hb17
    go_wp2_with fail
    go_ret
    exact ⟨rfl, HB17.out⟩
theorem own : ownKnob Tryd.prog.godebug = none := by kernel_rfl
theorem laidOut : laidOutB Tryd.prog = true := by kernel_rfl
set_option maxRecDepth 100000 in
theorem lifted (os : Os) (started : os.Started) (H : Type) (enc : TypeId × Value → H) :
    ReturnsInHanded {} Tryd.checked os 5 .any (fun w args => (Rows.frameBackSpec.pre enc Tryd.prog Tryd.f5 [] false w args ∧ laidMetH Tryd.prog Rows.frameBackRow.laid w) ∧ sizedMet enc Tryd.prog Tryd.f5 (OpenSpec.ofChange Rows.frameBackSpec) false w args) (Rows.frameBackSpec.post enc Tryd.prog Tryd.f5 false true false false) := by
  refine returnsInHanded_of_change_and (C := Tryd.checked) (X := fun w _ => laidMetH Tryd.prog Rows.frameBackRow.laid w) (fun _ _ _ hh h => h.of_heap hh) own started (by kernel_rfl) Tryd.func5
    (ChangeSpec.witness_shaped (enc := enc) (C := Tryd.checked) (os := os) (X := fun w _ => laidMetH Tryd.prog Rows.frameBackRow.laid w) false (World.laidAll Tryd.prog os Rows.frameBackRow.laid) #[.int .u32 0, .string ByteArray.empty, .agg #[.int .i64 0,.int .i64 0,.int .i64 0]] 8 (World.laidAll_os _ _ _)
      (World.shaped_of_ZipB (by kernel_rfl) (by kernel_rfl)) (by kernel_rfl) (by kernel_rfl) (by kernel_rfl)
      (by rw [MakeChecks.laidMetH_plain _ _ _ (by kernel_rfl)]; exact laidMet_laidAll _ (by kernel_rfl) (by kernel_rfl))) ?_
  intro W base args ds gs before hval0 hW _ _ _hL _
  have hval : ∀ (j : Nat) t v, Tryd.f5.params[j]? = some t → args[j]? = some v → Value.okWide Tryd.prog W .any base t v := hval0
  have hW' := hW
  obtain ⟨p, q, hA0, hV, rfl, hfz, hnd⟩ := hW
  have hA : DataW.TrodAll enc Tryd.prog W 0 (fun _ => true) true Tryd.f5.params.toList args.toList ds p := hA0
  rw [Tryd.params5] at hA hval
  obtain ⟨v0, vs0, d0, ds0, p0, q0, hargs, rfl, rfl, h0, r0⟩ := trodAll_cons hA
  obtain ⟨v1, vs1, d1, ds1, p1, q1, rfl, rfl, rfl, h1, r1⟩ := trodAll_cons r0
  obtain ⟨v2, vs2, d2, ds2, p2, q2, rfl, rfl, rfl, h2, r2⟩ := trodAll_cons r1
  obtain ⟨rfl, rfl, rfl⟩ := trodAll_nil r2
  obtain rfl : args = #[v0, v1, v2] := by cases args; simp_all
  obtain ⟨rfl, rfl⟩ := trodVars_none hV
  have k0 := h0
  have lt0 : ∀ x ∈ p0, x.block < W.heap.size := by obtain ⟨m, hm⟩ := k0; exact DataW.trod_lt m _ _ _ hm
  have k1 := h1
  have lt1 : ∀ x ∈ p1, x.block < W.heap.size := by obtain ⟨m, hm⟩ := k1; exact DataW.trod_lt m _ _ _ hm
  have k2 := h2
  have lt2 : ∀ x ∈ p2, x.block < W.heap.size := by obtain ⟨m, hm⟩ := k2; exact DataW.trod_lt m _ _ _ hm
  obtain ⟨a0, rfl, e0, f0, w0⟩ := open_int Tryd.underlying22 (hval 0 22 v0 rfl rfl) h0
  obtain ⟨a1, rfl, e1, f1, w1⟩ := open_string Tryd.underlying9 (hval 1 9 v1 rfl rfl) h1
  obtain ⟨cs2, e2, _⟩ := okWide_array Tryd.underlying41 (hval 2 41 v2 rfl rfl)
  obtain ⟨a2, w2⟩ : ∃ a, kA3.R W a cs2.toList := by
    obtain ⟨fuel, hf⟩ := h2
    rw [e2] at hf
    exact kA3.opn hf
  subst e2
  clear hA0 hval0
  refine (walk W a0 w0 a1 w1 cs2 a2 w2).mono fun e W' ⟨he, bel⟩ => ?_
  subst he
  exact ⟨_, rfl, _, _, _, [], _, [], hW', trodAll_mk1 (shut_bool Tryd.underlying4 _), (trodAll_cons_mk (Below.trod laidOut (by kernel_rfl) (of_decide_eq_true (by kernel_rfl)) k0 bel lt0) (trodAll_cons_mk (Below.trod laidOut (by kernel_rfl) (of_decide_eq_true (by kernel_rfl)) k1 bel lt1) (trodAll_cons_mk (Below.trod laidOut (by kernel_rfl) (of_decide_eq_true (by kernel_rfl)) k2 bel lt2) trodAll_mk0))), rfl, bel.frame _, fun h => by cases h⟩
theorem over : Rows.frameBackRow.holds Tryd.pinned (OpenSpec.ofChange Rows.frameBackSpec) :=
  OpenClaim.holds_of_wide 5 Tryd.f5 rfl rfl rfl rfl rfl rfl rfl ⟨rfl, rfl, rfl, rfl, rfl⟩ rfl rfl rfl rfl rfl (by kernel_rfl) Tryd.func5 (by kernel_rfl)
    (of_decide_eq_true (by kernel_rfl)) (by unfold Func.isWrapper; first | (rw [if_pos (by decide +kernel)]; kernel_rfl) | (rw [if_neg (by decide +kernel)]; exact ⟨rfl, rfl⟩))
    (fun os started H enc _ => lifted os started H enc)
theorem proved : Rows.FrameBackCardSaid :=
  Claim7.holds_tied_plain_at .later [] [.data, .pinned] true (true, "6877f7e2fb9e4bf04a3fec629da088c07fb68b4a07f79f772c5242f81ffe7e52") true over (fun _ h => by cases h) (by kernel_rfl) (fun _ h => by cases h) frameBack_row_tie rfl ⟨rfl, rfl⟩ (by kernel_rfl) rfl
    (fun f fn hf hfn => by
      obtain rfl : f = 5 := Option.some.inj ((show Tryd.prog.funcNamed Rows.frameBackRow.func = some 5 by kernel_rfl).symm.trans hf) |>.symm
      obtain rfl : fn = Tryd.f5 := (Option.some.inj (Tryd.func5.symm.trans hfn)).symm
      exact ⟨by kernel_rfl, fun j t ht => by
        rw [Tryd.params5] at ht
        have hm : t ∈ [22, 9, 41] := by have h9 := Array.mem_of_getElem? ht; simp at h9 ⊢; omega
        have hall : ([22, 9, 41].all fun u => !Tryd.prog.wantsStandIn u) = true := by kernel_rfl
        exact (show Tryd.prog.wantsStandIn t = false by simpa using List.all_eq_true.1 hall t hm)⟩)
    (by kernel_rfl)
#print axioms proved
end Go.Proofs.YtnplcjcbojjecaaDoor.frameBack
