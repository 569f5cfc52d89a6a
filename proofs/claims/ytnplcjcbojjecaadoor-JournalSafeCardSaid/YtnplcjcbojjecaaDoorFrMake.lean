import Derived.Test.YtnplcjcbojjecaaDoorFrPlain
set_option linter.unusedSimpArgs false
set_option linter.unusedVariables false
namespace Go.Proofs.YtnplcjcbojjecaaDoor
open Go.RowKit
theorem lesL_one (n v : Nat) : (⟨(lesL n [v]).toArray⟩ : ByteArray) = le n v := by simp [lesL, le]
theorem frMake_bad (num : Nat) (s : ByteArray) (w : World) (h : num = 0 ∨ 60000 < s.size) :
    Calls Tryd.prog 14 #[.int .u32 num, .string s] w fun e w' => e = .returned (.tuple #[.slice none 0 0, .int .i64 (makeF num s).2]) ∧ w' = w := by
  by_cases h0 : num = 0
  · have hm : Hid ((makeF num s).2 = 1) := Lib.hid (by unfold makeF; rw [if_pos h0])
    rw [hm.out]
    subst h0
    go_enter Tryd.func14, Tryd.ntmps14
    go_wp2
    go_ret2
    exact ⟨rfl, rfl⟩
  · have h1 : 60000 < s.size := by rcases h with h | h; exact absurd h h0; exact h
    have hm : Hid ((makeF num s).2 = 2) := Lib.hid (by unfold makeF; rw [if_neg h0, if_pos h1])
    rw [hm.out]
    have hz : ((num : Int) == 0) = false := by simpa using (by omega : ¬ ((num : Int) = 0))
    clear h h0
    go_enter Tryd.func14, Tryd.ntmps14
    go_wp2
    go_ret2
    exact ⟨rfl, rfl⟩
/-- One number of four bytes, out of a new row. -/
theorem bytes4 (v : Nat) (hv : v < 4294967296) (w : World) :
    Calls Tryd.prog 41 #[.int .i64 4, .slice (some ⟨w.heap.size, 0, none⟩) 1 1] (w.alloc (.cells #[.int .u64 v] 71)) fun e w' => e = .returned (.string (le 4 v)) ∧ Below w.heap.size w w' := by
  refine (bytes_any 4 (.inr rfl) [v] (by simpa using hv) (by simp) (by simp) w.heap.size 1 _ ?_).mono ?_
  · intro j hj
    have : j = 0 := by simpa using hj
    subst this
    exact (Blk.new w #[.int .u64 v] 71).cell 0
  · rintro e w' ⟨rfl, hb⟩
    exact ⟨by rw [lesL_one], ((Below.refl _ _).alloc (Nat.le_refl _) _).trans (hb.mono (by simp))⟩
/-- Two texts, out of a new row. -/
theorem joined2 (a b : ByteArray) (hs : a.size + b.size ≤ 1000000) (w : World) :
    Calls Tryd.prog 40 #[.slice (some ⟨w.heap.size, 0, none⟩) 2 2] (w.alloc (.cells #[.string a, .string b] 9)) fun e w' => e = .returned (.string (catB [a, b])) ∧ Below w.heap.size w w' := by
  refine (joined_any w.heap.size 2 [a, b] _ ?_ (by simp) (by simp) (by simp) (by rw [catB_size]; simpa using hs)).mono ?_
  · intro j x hj
    rw [Nat.zero_add]
    rw [(Blk.new w #[.string a, .string b] 9).cell j]
    match j with
    | 0 => simp at hj; subst hj; rfl
    | 1 => simp at hj; subst hj; rfl
    | j + 2 => simp at hj
  · rintro e w' ⟨rfl, hb⟩
    exact ⟨rfl, ((Below.refl _ _).alloc (Nat.le_refl _) _).trans (hb.mono (by simp))⟩
theorem rep_one : ∀ n, Lib.repeatL [(0 : UInt8)] n = List.replicate n 0
  | 0 => rfl
  | n + 1 => by rw [Lib.repeatL, rep_one n, List.replicate_succ]; rfl
theorem rep_zero (k : Nat) (hk : k ≤ 100000) (w : World) : Calls Tryd.prog 43 #[.string ⟨#[0]⟩, .int .i64 k] w fun e w' => e = .returned (.string (zerosN k)) ∧ Below w.heap.size w w' := by
  have h := Tryd.strings_Repeat ⟨#[0]⟩ k w (by omega) (by show 1 * k ≤ _; omega)
  have e : (⟨(Lib.repeatL [(0 : UInt8)] k).toArray⟩ : ByteArray) = zerosN k := by rw [rep_one]; rfl
  have e2 : (⟨(Lib.repeatL (⟨#[0]⟩ : ByteArray).data.toList k).toArray⟩ : ByteArray) = zerosN k := e
  rw [e2] at h
  exact h
end Go.Proofs.YtnplcjcbojjecaaDoor
