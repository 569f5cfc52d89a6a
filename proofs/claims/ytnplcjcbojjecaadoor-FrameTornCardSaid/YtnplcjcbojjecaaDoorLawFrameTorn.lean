/- Over a whole sector of another number a beginning of a new one is written: the number is either one's or none, and the new one's just if all bytes are. No condition; longer texts than the statement's own limit ask the example alone. -/
import Derived.Test.YtnplcjcbojjecaaDoorRows
import Derived.Test.YtnplcjcbojjecaaDoorCards
import Derived.Test.YtnplcjcbojjecaaDoorTie
import Derived.Test.YtnplcjcbojjecaaDoorFrWakes
import Derived.Test.YtnplcjcbojjecaaDoorFrTorn
import Derived.Test.YtnplcjcbojjecaaDoorRd
import Derived.ProofKit
import Derived.OpenShut
import Derived.ShutString
import Derived.Lay
import Derived.PinnedBridge
import Derived.SevenTiedAt
set_option linter.unusedSimpArgs false
set_option linter.unusedVariables false
namespace Go.Proofs.YtnplcjcbojjecaaDoor.frameTorn
open Go.ChangeShapes Go.WideShapes Go.ChangeAt Go.RowKit
open Go.ChangeMaps (open_string shut_string)
def kU32 : Kd Tryd.prog 22 Int := Kd.int Tryd.underlying22 (by kernel_rfl)
def kA2 : Kd Tryd.prog 44 (List Int) := Kd.arr Tryd.underlying44 kU32 2 (by kernel_rfl)
theorem u32_of {n : Int} (h : (Lit.int .u32 n).wf = true) : ∃ b : Nat, n = (b : Int) ∧ b < 4294967296 := by
  have h : 0 ≤ n ∧ n ≤ 4294967295 := by simpa [Lit.wf, IntKind.min, IntKind.max, IntKind.signed, IntKind.bits] using h
  exact ⟨n.toNat, by omega, by omega⟩
theorem kA2_cells {w : World} {l : List Int} {cs : Array Value} (h : kA2.R w l cs.toList) : ∃ a b : Nat, cs = #[.int .u32 (a : Int), .int .u32 (b : Int)] ∧ a < 4294967296 ∧ b < 4294967296 := by
  obtain ⟨hl, h3, h⟩ := h
  obtain ⟨cs⟩ := cs
  match l, h3 with
  | [a, b], _ =>
    match cs, hl with
    | [c0, c1], _ =>
      have h0 := h 0 a rfl
      have h1 := h 1 b rfl
      simp [kU32, Kd.int] at h0 h1
      obtain ⟨h0, w0⟩ := h0
      obtain ⟨h1, w1⟩ := h1
      obtain ⟨a, rfl, ha⟩ := u32_of w0
      obtain ⟨b, rfl, hb⟩ := u32_of w1
      exact ⟨a, b, by rw [h0, h1], ha, hb⟩
theorem head_of {num : Nat} {s : ByteArray} (h0 : 0 < num) (hn : num < 4294967296) : ∃ x r, secsF num s = x :: r ∧ x.size = 256 ∧ secNum x = num := by
  have hp := sizeN_pos s.size
  have hg := secsF_get num s 0 hp
  cases hl : secsF num s with
  | nil => rw [hl] at hg; simp at hg
  | cons x r =>
    rw [hl] at hg
    have : x = secF num 0 (sizeN s.size) (allF s) := by simpa using hg
    exact ⟨x, r, rfl, by rw [this]; exact secF_size _ _ _ _ (allF_size s) hp, by rw [this]; exact secF_num _ _ _ _ hn (allF_size s) hp⟩
set_option maxRecDepth 100000 in
set_option maxHeartbeats 4000000 in
theorem walk (w : World) (cw : Array Value) (lw : List Int) (hw : kA2.R w lw cw.toList) (s : ByteArray) (hs : s.size ≤ maxLen) (t : ByteArray) (ht : t.size ≤ maxLen) :
    Calls Tryd.prog 6 #[.agg cw, .string s, .string t] w fun e w' => e = .returned (.bool true) ∧ Below w.heap.size w w' := by
  obtain ⟨old, num, rfl, ho, hn⟩ := kA2_cells hw
  clear hw hs ht
  go_enter Tryd.func6, Tryd.ntmps6
  go_wp2_with fail
  generalize hw1 : w.alloc _ = w1
  have c0 : w1.cell? ⟨w.heap.size, 0, none⟩ = some (.int .u32 (old : Int)) := by rw [← hw1]; exact (Blk.new w _ _).cell 0
  have c1 : w1.cell? ⟨w.heap.size, 1, none⟩ = some (.int .u32 (num : Int)) := by rw [← hw1]; exact (Blk.new w _ _).cell 1
  have HB1 : Hid (Below w.heap.size w w1) := Lib.hid (by rw [← hw1]; exact (Below.refl _ _).alloc (Nat.le_refl _) _)
  clear hw1
  refine wp_region_held_drew (S := fun w' => w'.cell? ⟨w.heap.size, 0, none⟩ = some (.int .u32 (old : Int)) ∧ w'.cell? ⟨w.heap.size, 1, none⟩ = some (.int .u32 (num : Int))) (by kernel_rfl) ⟨c0, c1⟩ (fun hHeld => ?_)
  refine take_op 0 (some 16) (v := ?_) rfl rfl (by kernel_rfl) (by kernel_rfl) (by kernel_rfl) (fun _ _ _ h => h) (Or.inl ⟨by rfl, ?_⟩) (by assumption) ?_
  rotate_left
  · intro w_ hSw_; (try dsimp only at hSw_); go_simp; (try with_reducible rfl)
  try simp only [Act.put, List.setIfInBounds_toArray, List.set_cons_zero, List.set_cons_succ]
  refine take_op 1 (some 17) (v := ?_) rfl rfl (by kernel_rfl) (by kernel_rfl) (by kernel_rfl) (fun _ _ _ h => h) (Or.inl ⟨by rfl, ?_⟩) (by assumption) ?_
  rotate_left
  · intro w_ hSw_; (try dsimp only at hSw_); go_simp; (try with_reducible rfl)
  try simp only [Act.put, List.setIfInBounds_toArray, List.set_cons_zero, List.set_cons_succ]
  refine take_op 2 (some 18) (v := ?_) rfl rfl (by kernel_rfl) (by kernel_rfl) (by kernel_rfl) (fun _ _ _ h => h) (Or.inl ⟨by rfl, ?_⟩) (by assumption) ?_
  rotate_left
  · intro w_ hSw_; (try dsimp only at hSw_); go_simp; (try with_reducible rfl)
  try simp only [Act.put, List.setIfInBounds_toArray, List.set_cons_zero, List.set_cons_succ]
  refine take_op 3 (some 19) (v := ?_) rfl rfl (by kernel_rfl) (by kernel_rfl) (by kernel_rfl) (fun _ _ _ h => h) (Or.inl ⟨by rfl, ?_⟩) (by assumption) ?_
  rotate_left
  · intro w_ hSw_; (try dsimp only at hSw_); go_simp; (try with_reducible rfl)
  try simp only [Act.put, List.setIfInBounds_toArray, List.set_cons_zero, List.set_cons_succ]
  refine take_op 4 (some 7) (v := ?_) rfl rfl (by kernel_rfl) (by kernel_rfl) (by kernel_rfl) (fun _ _ _ h => h) (Or.inl ⟨by rfl, ?_⟩) (by assumption) ?_
  rotate_left
  · intro w_ hSw_; (try dsimp only at hSw_); go_simp; (try with_reducible rfl)
  try simp only [Act.put, List.setIfInBounds_toArray, List.set_cons_zero, List.set_cons_succ]
  refine take_op 5 (some 8) (v := ?_) rfl rfl (by kernel_rfl) (by kernel_rfl) (by kernel_rfl) (fun _ _ _ h => h) (Or.inl ⟨by rfl, ?_⟩) (by assumption) ?_
  rotate_left
  · intro w_ hSw_; (try dsimp only at hSw_); go_simp; (try with_reducible rfl)
  try simp only [Act.put, List.setIfInBounds_toArray, List.set_cons_zero, List.set_cons_succ]
  refine wpAnyH_done (by kernel_rfl) ?_ _
  have HB2 := Lib.hid HB1.out.drew
  clear HB1 c0 c1 hHeld
  generalize w1.drew = w2 at HB2
  by_cases h1 : 2000 < s.size
  · have g1 : (2000 : Int) < (s.size : Int) := by omega
    go_wp2_with fail
    refine (wakes10_any _).mono ?_
    rintro e w3 ⟨rfl, hb⟩
    have HB3 := Lib.hid (HB2.out.trans (hb.mono HB2.out.size))
    clear hb
    go_wp2_with fail
    go_ret
    exact ⟨rfl, HB3.out⟩
  have g1 : ¬ (2000 : Int) < (s.size : Int) := by omega
  by_cases h2 : 2000 < t.size
  · have g2 : (2000 : Int) < (t.size : Int) := by omega
    go_wp2_with fail
    refine (wakes10_any _).mono ?_
    rintro e w3 ⟨rfl, hb⟩
    have HB3 := Lib.hid (HB2.out.trans (hb.mono HB2.out.size))
    clear hb
    go_wp2_with fail
    go_ret
    exact ⟨rfl, HB3.out⟩
  have g2 : ¬ (2000 : Int) < (t.size : Int) := by omega
  by_cases h3 : old = num
  · have g3 : ((old : Int) == (num : Int)) = true := by rw [h3]; simp
    clear h3
    go_wp2_with fail
    refine (wakes10_any _).mono ?_
    rintro e w3 ⟨rfl, hb⟩
    have HB3 := Lib.hid (HB2.out.trans (hb.mono HB2.out.size))
    clear hb
    go_wp2_with fail
    go_ret
    exact ⟨rfl, HB3.out⟩
  have g3 : ((old : Int) == (num : Int)) = false := by simpa using (by omega : ¬ ((old : Int) = (num : Int)))
  go_wp2_with fail
  refine (frMake_strs old s _ ho).mono ?_
  rintro e w3 ⟨v3, rfl, hb3, hs3⟩
  have HB3 := Lib.hid (HB2.out.trans (hb3.mono HB2.out.size))
  have HS3 := Lib.hid hs3
  clear hb3 hs3 HB2
  go_wp2_with fail
  refine (frMake_strs num t _ hn).mono ?_
  rintro e w4 ⟨v4, rfl, hb4, hs4⟩
  have HB4 := Lib.hid (HB3.out.trans (hb4.mono HB3.out.size))
  have HS4 := Lib.hid hs4
  have HS5 := Lib.hid (HS3.out.below hb4)
  clear hb4 hs4 HB3 HS3
  by_cases ho0 : old = 0
  · have e1 : (makeF old s).2 = 1 := by unfold makeF; rw [if_pos ho0]
    have g4 : ((old : Int) == 0) = true := by rw [ho0]; rfl
    rw [e1]
    clear ho0 h3
    go_wp2_with fail
    refine (wakes10_any _).mono ?_
    rintro e w5 ⟨rfl, hb⟩
    have HB5 := Lib.hid (HB4.out.trans (hb.mono HB4.out.size))
    clear hb
    go_wp2_with fail
    go_ret
    exact ⟨rfl, HB5.out⟩
  have g4 : ((old : Int) == 0) = false := by simpa using (by omega : ¬ ((old : Int) = 0))
  have hmo : makeF old s = (secsF old s, 0) := makeF_some old s (by omega) (by omega)
  rw [hmo] at HS5 ⊢
  by_cases hn0 : num = 0
  · have e1 : (makeF num t).2 = 1 := by unfold makeF; rw [if_pos hn0]
    have g5 : ((num : Int) == 0) = true := by rw [hn0]; rfl
    rw [e1]
    clear hn0 h3
    go_wp2_with fail
    refine (wakes10_any _).mono ?_
    rintro e w5 ⟨rfl, hb⟩
    have HB5 := Lib.hid (HB4.out.trans (hb.mono HB4.out.size))
    clear hb
    go_wp2_with fail
    go_ret
    exact ⟨rfl, HB5.out⟩
  have hmn : makeF num t = (secsF num t, 0) := makeF_some num t (by omega) (by omega)
  rw [hmn] at HS4 ⊢
  obtain ⟨a, ra, ha1, ha2, ha3⟩ := head_of (s := s) (show 0 < old by omega) ho
  obtain ⟨b, rb, hb1, hb2, hb3⟩ := head_of (s := t) (show 0 < num by omega) hn
  rw [ha1] at HS5
  rw [hb1] at HS4
  have HT := Lib.hid (fun i hi => torn a b old num i ha3 hb3 (by omega) (by omega) h3 hi)
  have HA2 := Lib.hid ha2
  have HB9 := Lib.hid hb2
  obtain ⟨aa, ca, rfl, hla, hca⟩ := HS5.out.out
  obtain ⟨ab, cb, rfl, hlb, hcb⟩ := HS4.out.out
  obtain ⟨b1, o1, rfl, k1, k2⟩ := hca (by simp)
  obtain ⟨b2, o2, rfl, k3, k4⟩ := hcb (by simp)
  have d1 : w4.cell? ⟨b1, o1, none⟩ = some (.string a) := k2 0 a rfl
  have d2 : w4.cell? ⟨b2, o2, none⟩ = some (.string b) := k4 0 b rfl
  obtain ⟨na, hna⟩ : ∃ n, n = (a :: ra).length := ⟨_, rfl⟩
  obtain ⟨nb, hnb⟩ : ∃ n, n = (b :: rb).length := ⟨_, rfl⟩
  have p1 : 0 < na := by rw [hna]; simp
  have p2 : 0 < nb := by rw [hnb]; simp
  rw [← hna, ← hnb]
  have q1 : ((na : Int) == 0) = false := by simpa using (by omega : ¬ ((na : Int) = 0))
  have q2 : ((nb : Int) == 0) = false := by simpa using (by omega : ¬ ((nb : Int) = 0))
  have q3 : (a.size : Int) = 256 := by omega
  have q4 : (b.size : Int) = 256 := by omega
  clear k2 k4 hca hcb hla hlb hna hnb hmo hmn ha1 hb1 ha2 hb2 ha3 hb3 HS4 HS5 h1 h2 h3 g1 g2 g3 g4 ho0 hn0 ho hn
  go_wp2_with fail
  go_loopw [13] (fun x wr => ∃ i : Nat, i ≤ 257 ∧ x = .int .i64 i ∧ Below w4.heap.size w4 wr) (fun x _ => 257 - (intOf x).toNat)
  case atStart => exact ⟨0, Nat.zero_le _, rfl, Below.refl _ _⟩
  case round =>
    obtain ⟨i, hi, rfl, hB⟩ := hrel
    have HB := Lib.hid hB
    clear hB
    by_cases hlt : i ≤ 256
    · have e1 : wr.cell? ⟨b1, o1, none⟩ = some (.string a) := (HB.out.cell (p := ⟨b1, o1, none⟩) k1).trans d1
      have e2 : wr.cell? ⟨b2, o2, none⟩ = some (.string b) := (HB.out.cell (p := ⟨b2, o2, none⟩) k3).trans d2
      have l1 : b2 < wr.heap.size := Nat.lt_of_lt_of_le k3 HB.out.size
      have t1 : (i : Int) ≤ (a.size : Int) := by omega
      have t2 : (i : Int) ≤ (b.size : Int) := by omega
      obtain ⟨y1, hy1⟩ : ∃ y, y = b.extract 0 i := ⟨_, rfl⟩
      obtain ⟨y2, hy2⟩ : ∃ y, y = a.extract i a.size := ⟨_, rfl⟩
      have hq : ¬ 9223372036854775807 < y1.size + y2.size := by rw [hy1, hy2, ByteArray.size_extract, ByteArray.size_extract, HA2.out, HB9.out]; omega
      obtain ⟨x, hxx⟩ : ∃ x, x = y1 ++ y2 := ⟨_, rfl⟩
      have hxs : x.size = 256 := by rw [hxx, ByteArray.size_append, hy1, hy2, ByteArray.size_extract, ByteArray.size_extract, HA2.out, HB9.out]; omega
      have hT := HT.out i hlt
      rw [← hy1, ← hy2, ← hxx] at hT
      have HT9 := Lib.hid hT
      have HY1 := Lib.hid hy1
      have HY2 := Lib.hid hy2
      have HXX := Lib.hid hxx
      have HXS := Lib.hid hxs
      clear hT hy1 hy2 hxx hxs
      go_wp2_with fail
      refine wp_region_held_drew (S := fun w' => w'.cell? ⟨b1, o1, none⟩ = some (.string a) ∧ w'.cell? ⟨b2, o2, none⟩ = some (.string b)) (by kernel_rfl) ⟨e1, e2⟩ (fun hHeld => ?_)
      refine take_op 0 (some 87) (v := ?_) rfl rfl (by kernel_rfl) (by kernel_rfl) (by kernel_rfl) (fun _ _ _ h => h) (Or.inl ⟨by rfl, ?_⟩) (by assumption) ?_
      rotate_left
      · intro w_ hSw_; (try dsimp only at hSw_); go_simp; (try with_reducible rfl)
      try simp only [Act.put, List.setIfInBounds_toArray, List.set_cons_zero, List.set_cons_succ]
      refine take_op 1 (some 88) (v := ?_) rfl rfl (by kernel_rfl) (by kernel_rfl) (by kernel_rfl) (fun _ _ _ h => h) (Or.inl ⟨by rfl, ?_⟩) (by assumption) ?_
      rotate_left
      · intro w_ hSw_; (try dsimp only at hSw_); go_simp; (try with_reducible rfl)
      try simp only [Act.put, List.setIfInBounds_toArray, List.set_cons_zero, List.set_cons_succ]
      refine take_op 2 (some 89) (v := ?_) rfl rfl (by kernel_rfl) (by kernel_rfl) (by kernel_rfl) (fun _ _ _ h => h) (Or.inl ⟨by rfl, ?_⟩) (by assumption) ?_
      rotate_left
      · intro w_ hSw_; (try dsimp only at hSw_); go_simp; (try with_reducible rfl)
      try simp only [Act.put, List.setIfInBounds_toArray, List.set_cons_zero, List.set_cons_succ]
      refine take_op 3 (some 90) (v := ?_) rfl rfl (by kernel_rfl) (by kernel_rfl) (by kernel_rfl) (fun _ _ _ h => h) (Or.inl ⟨by rfl, ?_⟩) (by assumption) ?_
      rotate_left
      · intro w_ hSw_; (try dsimp only at hSw_); go_simp; (try with_reducible rfl)
      try simp only [Act.put, List.setIfInBounds_toArray, List.set_cons_zero, List.set_cons_succ]
      refine take_op 4 (some 91) (v := ?_) rfl rfl (by kernel_rfl) (by kernel_rfl) (by kernel_rfl) (fun _ _ _ h => h) (Or.inl ⟨by rfl, ?_⟩) (by assumption) ?_
      rotate_left
      · intro w_ hSw_; (try dsimp only at hSw_); go_simp; (try with_reducible rfl)
      try simp only [Act.put, List.setIfInBounds_toArray, List.set_cons_zero, List.set_cons_succ]
      refine take_op 5 (some 92) (v := ?_) rfl rfl (by kernel_rfl) (by kernel_rfl) (by kernel_rfl) (fun _ _ _ h => h) (Or.inl ⟨by rfl, ?_⟩) (by assumption) ?_
      rotate_left
      · intro w_ hSw_; (try dsimp only at hSw_); go_simp; (try with_reducible rfl)
      try simp only [Act.put, List.setIfInBounds_toArray, List.set_cons_zero, List.set_cons_succ]
      refine take_op 6 (some 93) (v := ?_) rfl rfl (by kernel_rfl) (by kernel_rfl) (by kernel_rfl) (fun _ _ _ h => h) (Or.inl ⟨by rfl, ?_⟩) (by assumption) ?_
      rotate_left
      · intro w_ hSw_; (try dsimp only at hSw_); go_simp; (try with_reducible rfl)
      try simp only [Act.put, List.setIfInBounds_toArray, List.set_cons_zero, List.set_cons_succ]
      refine take_op 7 (some 94) (v := ?_) rfl rfl (by kernel_rfl) (by kernel_rfl) (by kernel_rfl) (fun _ _ _ h => h) (Or.inl ⟨by rfl, ?_⟩) (by assumption) ?_
      rotate_left
      · intro w_ hSw_; (try dsimp only at hSw_); go_simp; (try with_reducible rfl)
      try simp only [Act.put, List.setIfInBounds_toArray, List.set_cons_zero, List.set_cons_succ]
      refine take_op 8 (some 95) (v := ?_) rfl rfl (by kernel_rfl) (by kernel_rfl) (by kernel_rfl) (fun _ _ _ h => h) (Or.inl ⟨by rfl, ?_⟩) (by assumption) ?_
      rotate_left
      · intro w_ hSw_; (try dsimp only at hSw_); go_simp; (try with_reducible rfl)
      try simp only [Act.put, List.setIfInBounds_toArray, List.set_cons_zero, List.set_cons_succ]
      refine take_op 9 (some 96) (v := ?_) rfl rfl (by kernel_rfl) (by kernel_rfl) (by kernel_rfl) (fun _ _ _ h => h) (Or.inl ⟨by rfl, ?_⟩) (by assumption) ?_
      rotate_left
      · intro w_ hSw_; (try dsimp only at hSw_); go_simp; (try with_reducible rfl)
      try simp only [Act.put, List.setIfInBounds_toArray, List.set_cons_zero, List.set_cons_succ]
      rw [← HY1.out, ← HY2.out]
      refine take_op 10 (some 97) (v := ?_) rfl rfl (by kernel_rfl) (by kernel_rfl) (by kernel_rfl) (fun _ _ _ h => h) (Or.inl ⟨by rfl, ?_⟩) (by assumption) ?_
      rotate_left
      · intro w_ hSw_; (try dsimp only at hSw_); go_simp; (try with_reducible rfl)
      try simp only [Act.put, List.setIfInBounds_toArray, List.set_cons_zero, List.set_cons_succ]
      refine take_op 11 (some 14) (v := ?_) rfl rfl (by kernel_rfl) (by kernel_rfl) (by kernel_rfl) (fun _ _ _ h => h) (Or.inl ⟨by rfl, ?_⟩) (by assumption) ?_
      rotate_left
      · intro w_ hSw_; (try dsimp only at hSw_); go_simp; (try with_reducible rfl)
      try simp only [Act.put, List.setIfInBounds_toArray, List.set_cons_zero, List.set_cons_succ]
      refine wpAnyH_done (by kernel_rfl) ?_ _
      rw [← HXX.out]
      have HB6 := Lib.hid HB.out.drew
      have l2 : b2 < wr.drew.heap.size := l1
      clear hHeld hq e1 e2
      generalize wr.drew = w6 at HB6 l2
      go_wp2_with fail
      refine (frNum_any x (by rw [HXS.out]; simp [maxLen]) w6).mono ?_
      rintro e w7 ⟨rfl, hb7⟩
      have HB7 := Lib.hid (HB6.out.trans (hb7.mono HB6.out.size))
      have e2 : w7.cell? ⟨b2, o2, none⟩ = some (.string b) := (HB7.out.cell (p := ⟨b2, o2, none⟩) k3).trans d2
      clear hb7 l1 l2 HB6
      obtain ⟨n, hn⟩ : ∃ n, n = secNum x := ⟨_, rfl⟩
      have hT := HT9.out
      rw [← hn] at hT ⊢
      obtain ⟨f1, f2, f3⟩ := hT
      clear hn HT9
      have f4 : (x.toList == b.toList) = ((n : Int) == (num : Int)) := by
        rw [ba_toList_beq, Bool.eq_iff_iff, decide_eq_true_iff]
        constructor
        · intro h
          have := f2.2 (ba_ext h)
          simp [this]
        · intro h
          have h' : n = num := by
            have h2 : (n : Int) = (num : Int) := by simpa using h
            omega
          rw [f2.1 h']
      by_cases hn : n = num
      · have u1 : ((n : Int) != (num : Int)) = false := by rw [hn]; simp
        have u2 : ((n : Int) == (num : Int)) = true := by rw [hn]; simp
        rw [u2] at f4
        by_cases hi0 : i = 0
        · have u3 : ((i : Int) == 0) = true := by rw [hi0]; rfl
          have u4 : ((n : Int) != (old : Int)) = false := by rw [f3 hi0]; simp
          clear f1 f2 f3 hn hi0
          by_cases hn0 : n = 0
          · have u5 : ((n : Int) != 0) = false := by rw [hn0]; rfl
            clear hn0
            go_wp2_with fail
            refine ⟨⟨i + 1, by omega, by go_num, HB7.out⟩, ?_⟩
            simp [intOf]; omega
          · have u5 : ((n : Int) != 0) = true := by simpa using (by omega : ¬ ((n : Int) = 0))
            clear hn0
            go_wp2_with fail
            refine ⟨⟨i + 1, by omega, by go_num, HB7.out⟩, ?_⟩
            simp [intOf]; omega
        · have u3 : ((i : Int) == 0) = false := by simpa using (by omega : ¬ ((i : Int) = 0))
          clear f1 f2 f3 hn hi0
          by_cases hn0 : n = 0
          · have u5 : ((n : Int) != 0) = false := by rw [hn0]; rfl
            clear hn0
            go_wp2_with fail
            refine ⟨⟨i + 1, by omega, by go_num, HB7.out⟩, ?_⟩
            simp [intOf]; omega
          · have u5 : ((n : Int) != 0) = true := by simpa using (by omega : ¬ ((n : Int) = 0))
            clear hn0
            by_cases hno : n = old
            · have u4 : ((n : Int) != (old : Int)) = false := by rw [hno]; simp
              clear hno
              go_wp2_with fail
              refine ⟨⟨i + 1, by omega, by go_num, HB7.out⟩, ?_⟩
              simp [intOf]; omega
            · have u4 : ((n : Int) != (old : Int)) = true := by simpa using (by omega : ¬ ((n : Int) = (old : Int)))
              clear hno
              go_wp2_with fail
              refine ⟨⟨i + 1, by omega, by go_num, HB7.out⟩, ?_⟩
              simp [intOf]; omega
      · have u1 : ((n : Int) != (num : Int)) = true := by simpa using (by omega : ¬ ((n : Int) = (num : Int)))
        have u2 : ((n : Int) == (num : Int)) = false := by simpa using (by omega : ¬ ((n : Int) = (num : Int)))
        rw [u2] at f4
        by_cases hno : n = old
        · have u4 : ((n : Int) != (old : Int)) = false := by rw [hno]; simp
          clear f2 f3 hn hno f1
          by_cases hn0 : n = 0
          · have u5 : ((n : Int) != 0) = false := by rw [hn0]; rfl
            clear hn0
            by_cases hi0 : i = 0
            · have u3 : ((i : Int) == 0) = true := by rw [hi0]; rfl
              clear hi0
              go_wp2_with fail
              refine ⟨⟨i + 1, by omega, by go_num, HB7.out⟩, ?_⟩
              simp [intOf]; omega
            · have u3 : ((i : Int) == 0) = false := by simpa using (by omega : ¬ ((i : Int) = 0))
              clear hi0
              go_wp2_with fail
              refine ⟨⟨i + 1, by omega, by go_num, HB7.out⟩, ?_⟩
              simp [intOf]; omega
          · have u5 : ((n : Int) != 0) = true := by simpa using (by omega : ¬ ((n : Int) = 0))
            clear hn0
            by_cases hi0 : i = 0
            · have u3 : ((i : Int) == 0) = true := by rw [hi0]; rfl
              clear hi0
              go_wp2_with fail
              refine ⟨⟨i + 1, by omega, by go_num, HB7.out⟩, ?_⟩
              simp [intOf]; omega
            · have u3 : ((i : Int) == 0) = false := by simpa using (by omega : ¬ ((i : Int) = 0))
              clear hi0
              go_wp2_with fail
              refine ⟨⟨i + 1, by omega, by go_num, HB7.out⟩, ?_⟩
              simp [intOf]; omega
        · have hn0 : n = 0 := by rcases f1 with h | h | h; exact h; exact absurd h hno; exact absurd h hn
          have hi0 : ¬ i = 0 := fun h => hno (f3 h)
          have u3 : ((i : Int) == 0) = false := by simpa using (by omega : ¬ ((i : Int) = 0))
          have u5 : ((n : Int) != 0) = false := by rw [hn0]; rfl
          clear f1 f2 f3 hn hno hn0 hi0
          go_wp2_with fail
          refine ⟨⟨i + 1, by omega, by go_num, HB7.out⟩, ?_⟩
          simp [intOf]; omega
    · have g9 : ¬ (i : Int) ≤ 256 := by omega
      go_wp2_with fail
      refine (wakes10_any _).mono ?_
      rintro e w8 ⟨rfl, hb8⟩
      have HB8 := Lib.hid (HB4.out.trans ((HB.out.trans (hb8.mono HB.out.size)).mono HB4.out.size))
      clear hb8
      go_wp2_with fail
      go_ret
      exact ⟨rfl, HB8.out⟩
theorem own : ownKnob Tryd.prog.godebug = none := by kernel_rfl
theorem laidOut : laidOutB Tryd.prog = true := by kernel_rfl
set_option maxRecDepth 100000 in
theorem lifted (os : Os) (started : os.Started) (H : Type) (enc : TypeId × Value → H) :
    ReturnsInHanded {} Tryd.checked os 6 .any (fun w args => (Rows.frameTornSpec.pre enc Tryd.prog Tryd.f6 [] false w args ∧ laidMetH Tryd.prog Rows.frameTornRow.laid w) ∧ sizedMet enc Tryd.prog Tryd.f6 (OpenSpec.ofChange Rows.frameTornSpec) false w args) (Rows.frameTornSpec.post enc Tryd.prog Tryd.f6 false true false false) := by
  refine returnsInHanded_of_change_and (C := Tryd.checked) (X := fun w _ => laidMetH Tryd.prog Rows.frameTornRow.laid w) (fun _ _ _ hh h => h.of_heap hh) own started (by kernel_rfl) Tryd.func6
    (ChangeSpec.witness_shaped (enc := enc) (C := Tryd.checked) (os := os) (X := fun w _ => laidMetH Tryd.prog Rows.frameTornRow.laid w) false (World.laidAll Tryd.prog os Rows.frameTornRow.laid) #[.agg #[.int .u32 0,.int .u32 0], .string ByteArray.empty, .string ByteArray.empty] 8 (World.laidAll_os _ _ _)
      (World.shaped_of_ZipB (by kernel_rfl) (by kernel_rfl)) (by kernel_rfl) (by kernel_rfl) (by kernel_rfl)
      (by rw [MakeChecks.laidMetH_plain _ _ _ (by kernel_rfl)]; exact laidMet_laidAll _ (by kernel_rfl) (by kernel_rfl))) ?_
  intro W base args ds gs before hval0 hW _ _ _hL _
  have hval : ∀ (j : Nat) t v, Tryd.f6.params[j]? = some t → args[j]? = some v → Value.okWide Tryd.prog W .any base t v := hval0
  have hW' := hW
  obtain ⟨p, q, hA0, hV, rfl, hfz, hnd⟩ := hW
  have hA : DataW.TrodAll enc Tryd.prog W 0 (fun _ => true) true Tryd.f6.params.toList args.toList ds p := hA0
  rw [Tryd.params6] at hA hval
  obtain ⟨v0, vs0, d0, ds0, p0, q0, hargs, rfl, rfl, h0, r0⟩ := trodAll_cons hA
  obtain ⟨v1, vs1, d1, ds1, p1, q1, rfl, rfl, rfl, h1, r1⟩ := trodAll_cons r0
  obtain ⟨v2, vs2, d2, ds2, p2, q2, rfl, rfl, rfl, h2, r2⟩ := trodAll_cons r1
  obtain ⟨rfl, rfl, rfl⟩ := trodAll_nil r2
  obtain rfl : args = #[v0, v1, v2] := by cases args; simp_all
  obtain ⟨rfl, rfl⟩ := trodVars_none hV
  have k0 := h0
  have lt0 : ∀ x ∈ p0, x.block < W.heap.size := by obtain ⟨m, hm⟩ := k0; exact DataW.trod_lt m _ _ _ hm
  have k1 := h1
  have lt1 : ∀ x ∈ p1, x.block < W.heap.size := by obtain ⟨m, hm⟩ := k1; exact DataW.trod_lt m _ _ _ hm
  have k2 := h2
  have lt2 : ∀ x ∈ p2, x.block < W.heap.size := by obtain ⟨m, hm⟩ := k2; exact DataW.trod_lt m _ _ _ hm
  obtain ⟨cs0, e0, _⟩ := okWide_array Tryd.underlying44 (hval 0 44 v0 rfl rfl)
  obtain ⟨a0, w0⟩ : ∃ a, kA2.R W a cs0.toList := by
    obtain ⟨fuel, hf⟩ := h0
    rw [e0] at hf
    exact kA2.opn hf
  subst e0
  obtain ⟨a1, rfl, e1, f1, w1⟩ := open_string Tryd.underlying9 (hval 1 9 v1 rfl rfl) h1
  obtain ⟨a2, rfl, e2, f2, w2⟩ := open_string Tryd.underlying9 (hval 2 9 v2 rfl rfl) h2
  clear hA0 hval0
  refine (walk W cs0 a0 w0 a1 w1 a2 w2).mono fun e W' ⟨he, bel⟩ => ?_
  subst he
  exact ⟨_, rfl, _, _, _, [], _, [], hW', trodAll_mk1 (shut_bool Tryd.underlying4 _), (trodAll_cons_mk (Below.trod laidOut (by kernel_rfl) (of_decide_eq_true (by kernel_rfl)) k0 bel lt0) (trodAll_cons_mk (Below.trod laidOut (by kernel_rfl) (of_decide_eq_true (by kernel_rfl)) k1 bel lt1) (trodAll_cons_mk (Below.trod laidOut (by kernel_rfl) (of_decide_eq_true (by kernel_rfl)) k2 bel lt2) trodAll_mk0))), rfl, bel.frame _, fun h => by cases h⟩
theorem over : Rows.frameTornRow.holds Tryd.pinned (OpenSpec.ofChange Rows.frameTornSpec) :=
  OpenClaim.holds_of_wide 6 Tryd.f6 rfl rfl rfl rfl rfl rfl rfl ⟨rfl, rfl, rfl, rfl, rfl⟩ rfl rfl rfl rfl rfl (by kernel_rfl) Tryd.func6 (by kernel_rfl)
    (of_decide_eq_true (by kernel_rfl)) (by unfold Func.isWrapper; first | (rw [if_pos (by decide +kernel)]; kernel_rfl) | (rw [if_neg (by decide +kernel)]; exact ⟨rfl, rfl⟩))
    (fun os started H enc _ => lifted os started H enc)
theorem proved : Rows.FrameTornCardSaid :=
  Claim7.holds_tied_plain_at .later [] [.data, .pinned] true (true, "6877f7e2fb9e4bf04a3fec629da088c07fb68b4a07f79f772c5242f81ffe7e52") true over (fun _ h => by cases h) (by kernel_rfl) (fun _ h => by cases h) frameTorn_row_tie rfl ⟨rfl, rfl⟩ (by kernel_rfl) rfl
    (fun f fn hf hfn => by
      obtain rfl : f = 6 := Option.some.inj ((show Tryd.prog.funcNamed Rows.frameTornRow.func = some 6 by kernel_rfl).symm.trans hf) |>.symm
      obtain rfl : fn = Tryd.f6 := (Option.some.inj (Tryd.func6.symm.trans hfn)).symm
      exact ⟨by kernel_rfl, fun j t ht => by
        rw [Tryd.params6] at ht
        have hm : t ∈ [44, 9] := by have h9 := Array.mem_of_getElem? ht; simp at h9 ⊢; omega
        have hall : ([44, 9].all fun u => !Tryd.prog.wantsStandIn u) = true := by kernel_rfl
        exact (show Tryd.prog.wantsStandIn t = false by simpa using List.all_eq_true.1 hall t hm)⟩)
    (by kernel_rfl)
#print axioms proved
end Go.Proofs.YtnplcjcbojjecaaDoor.frameTorn
