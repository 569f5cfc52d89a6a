import Derived.Test.YtcienfbkcfhfcaaCrcRef
import Derived.ShutString
set_option linter.unusedSimpArgs false
set_option linter.unusedVariables false
namespace Go.Proofs.Ytcienfbkcfhfcaa
open Go.RowKit
attribute [local go_sem] not_tn not_tn'
theorem same_below {e : Ending} {w w' : World} {v : Value} (h : e = .returned v ∧ w' = w) : e = .returned v ∧ Below w.heap.size w w' :=
  ⟨h.1, by rw [h.2]; exact Below.refl _ _⟩
def sumF (l : List UInt8) : W32 := againF 0#32 l
theorem again_num (n : Int) (c : W32) (hn : n = tn c) (s : ByteArray) (w : World) (hs : s.size ≤ 140737488351232) :
    Calls Try.prog 17 #[.int .u32 n, .string s] w fun e w' => e = .returned (.int .u32 (tn (againF c s.data.toList))) ∧ w' = w := by
  subst hn; exact again_any c s w hs
theorem go_num' (n : Int) (c : W32) (hn : n = tn c) (s : ByteArray) (w : World) (hs : s.size ≤ 140737488351232) :
    Calls Try.prog 52 #[.int .u32 n, .string s] w fun e w' => e = .returned (.int .u32 (tn (runB c s.data.toList))) ∧ w' = w := by
  subst hn; exact refGo_any c s w hs
theorem ones_tn : (4294967295 : Int) = tn (~~~ 0#32) := by
  have h : (~~~ 0#32 : W32).toNat = 4294967295 := by decide
  unfold tn; rw [h]; rfl
theorem sum_any (s : ByteArray) (w : World) (hs : s.size ≤ 140737488351232) :
    Calls Try.prog 15 #[.string s] w fun e w' => e = .returned (.int .u32 (tn (sumF s.data.toList))) ∧ w' = w := by
  go_enter Try.func15, Try.ntmps15
  go_wp2_with (go_at_call 17; refine (again_num 0 0#32 rfl s _ hs).mono ?_; rintro e w' ⟨rfl, rfl⟩)
  go_ret
  exact ⟨rfl, rfl⟩
theorem refSum_any (s : ByteArray) (w : World) (hs : s.size ≤ 140737488351232) :
    Calls Try.prog 16 #[.string s] w fun e w' => e = .returned (.int .u32 (tn (sumF s.data.toList))) ∧ w' = w := by
  go_enter Try.func16, Try.ntmps16
  go_wp2_with fail
  have h2 := go_num' 4294967295 (~~~ 0#32) ones_tn s w hs
  refine h2.mono ?_
  clear h2
  rintro e w' ⟨rfl, rfl⟩
  go_wp2
  go_ret
  exact ⟨rfl, rfl⟩
theorem refAgain_any (c : W32) (s : ByteArray) (w : World) (hs : s.size ≤ 140737488351232) :
    Calls Try.prog 18 #[.int .u32 (tn c), .string s] w fun e w' => e = .returned (.int .u32 (tn (againF c s.data.toList))) ∧ w' = w := by
  go_enter Try.func18, Try.ntmps18
  go_wp2_with (go_at_call 52; refine (refGo_any (~~~c) s _ hs).mono ?_; rintro e w' ⟨rfl, rfl⟩)
  go_ret
  exact ⟨rfl, rfl⟩
/-- The joined sum is the sum of both. -/
theorem join_again (c : W32) (l m : List UInt8) : joinF (againF c l) (sumF m) m.length = againF c (l ++ m) := by
  unfold joinF sumF againF
  rw [runB_app, runB_split m (runB (~~~c) l), runB_split m (~~~0#32)]
  have e : ∀ x : W32, ~~~x = BitVec.allOnes 32 ^^^ x := fun x => (BitVec.allOnes_xor).symm
  simp only [e, stpN_xor, stpN_zero, BitVec.xor_zero]
  generalize stpN (8 * m.length) (BitVec.allOnes 32) = A
  generalize stpN (8 * m.length) (runB (BitVec.allOnes 32 ^^^ c) l) = B
  generalize runB 0#32 m = C
  rw [show A ^^^ B ^^^ (BitVec.allOnes 32 ^^^ (A ^^^ C)) = BitVec.allOnes 32 ^^^ (B ^^^ C) ^^^ (A ^^^ A) by ac_rfl]
  simp
theorem again_app (l m : List UInt8) : againF (sumF l) m = sumF (l ++ m) := by
  unfold sumF againF; rw [BitVec.not_not, runB_app]
/-- The sums of the law's own example. -/
def t9 : ByteArray := ⟨#[49, 50, 51, 52, 53, 54, 55, 56, 57]⟩
def t5 : ByteArray := ⟨#[49, 50, 51, 52, 53]⟩
def t4 : ByteArray := ⟨#[54, 55, 56, 57]⟩
theorem sum_t9 : sumF t9.data.toList = 3421780262#32 := by decide +kernel
theorem again_t : againF (sumF t5.data.toList) t4.data.toList = 3421780262#32 := by rw [again_app]; exact sum_t9
theorem join_t : joinF (sumF t5.data.toList) (sumF t4.data.toList) 4 = 3421780262#32 := by
  have h := join_again 0#32 t5.data.toList t4.data.toList
  exact h.trans sum_t9
theorem num_t : tn 3421780262#32 = (3421780262 : Int) := by unfold tn; rw [BitVec.toNat_ofNat]; rfl
theorem wakes_any (w : World) : Calls Try.prog 14 #[] w fun e w' => e = .returned (.bool true) ∧ Below w.heap.size w w' := by
  have e1 : Hid (tn (sumF t9.data.toList) = (3421780262 : Int)) := by refine Lib.hid ?_; rw [sum_t9]; exact num_t
  have e2 : Hid (tn (againF (sumF t5.data.toList) t4.data.toList) = (3421780262 : Int)) := by refine Lib.hid ?_; rw [again_t]; exact num_t
  have e3 : Hid (tn (joinF (sumF t5.data.toList) (sumF t4.data.toList) 4) = (3421780262 : Int)) := by refine Lib.hid ?_; rw [join_t]; exact num_t
  go_enter Try.func14, Try.ntmps14
  have f1 : (tn (sumF t9.data.toList) == (3421780262 : Int)) = true := by rw [e1.out]; rfl
  have f2 : (tn (againF (sumF t5.data.toList) t4.data.toList) == (3421780262 : Int)) = true := by rw [e2.out]; rfl
  have f3 : (tn (joinF (sumF t5.data.toList) (sumF t4.data.toList) 4) == (3421780262 : Int)) = true := by rw [e3.out]; rfl
  go_wp2_with fail
  refine (sum_any t9 _ (by decide)).mono ?_
  rintro e w' ⟨rfl, rfl⟩
  go_wp2_with fail
  refine (sum_any t5 _ (by decide)).mono ?_
  rintro e w' ⟨rfl, rfl⟩
  go_wp2_with fail
  refine (again_any _ t4 _ (by decide)).mono ?_
  rintro e w' ⟨rfl, rfl⟩
  go_wp2_with fail
  refine (sum_any t5 _ (by decide)).mono ?_
  rintro e w' ⟨rfl, rfl⟩
  go_wp2_with fail
  refine (sum_any t4 _ (by decide)).mono ?_
  rintro e w' ⟨rfl, rfl⟩
  go_wp2_with fail
  refine (join_any _ _ 4 (by decide) _).mono ?_
  rintro e w' ⟨rfl, hb⟩
  go_wp2_with fail
  go_ret
  exact ⟨rfl, hb⟩
end Go.Proofs.Ytcienfbkcfhfcaa
