import Derived.Test.YtnplcjcbojjecaaDoorPkPut
set_option linter.unusedSimpArgs false
set_option linter.unusedVariables false
namespace Go.Proofs.YtnplcjcbojjecaaDoor
open Go.RowKit
def lesL (n : Nat) (vs : List Nat) : List UInt8 := vs.flatMap (leL n)
theorem lesL_len (n : Nat) (vs : List Nat) : (lesL n vs).length = vs.length * n := by
  induction vs with
  | nil => simp [lesL]
  | cons a vs ih => simp only [lesL, List.flatMap_cons, List.length_append, leL_len] at *; rw [ih, List.length_cons, Nat.succ_mul]; omega
theorem lesL_take (n : Nat) (vs : List Nat) (i : Nat) (hi : i < vs.length) : lesL n (vs.take (i + 1)) = lesL n (vs.take i) ++ leL n vs[i] := by
  unfold lesL
  rw [List.take_succ_eq_append_getElem hi, List.flatMap_append, List.flatMap_cons, List.flatMap_nil, List.append_nil]
set_option maxHeartbeats 1000000 in
/-- frame.bytes: numbers of n bytes, put together. -/
theorem bytes_any (n : Nat) (hn : n = 2 ∨ n = 4) (vs : List Nat) (hv : ∀ v ∈ vs, v < 256 ^ n) (h0 : 0 < vs.length) (h9 : vs.length ≤ 9) (lb cap : Nat) (w : World)
    (hc : ∀ j (hj : j < vs.length), w.cell? ⟨lb, j, none⟩ = some (.int .u64 (vs[j] : Int))) :
    Calls Tryd.prog 41 #[.int .i64 n, .slice (some ⟨lb, 0, none⟩) vs.length cap] w fun e w' => e = .returned (.string ⟨(lesL n vs).toArray⟩) ∧ Below w.heap.size w w' := by
  have HC := Lib.hid hc
  have HV := Lib.hid hv
  clear hc hv
  go_enter Tryd.func41, Tryd.ntmps41
  go_wp2_with fail
  go_loopw [14] (fun x wr => ∃ (i : Nat) (v' : Value), i ≤ vs.length ∧ x = .int .i64 i ∧ PkAt wr w.heap.size v' (lesL n (vs.take i)) ∧ Below w.heap.size w wr) (fun x _ => vs.length - (intOf x).toNat)
  case atStart =>
    refine ⟨0, .slice none 0 0, Nat.zero_le _, rfl, ⟨Blk.new _ _ _, ⟨rfl, .inl ⟨rfl, rfl⟩⟩⟩, (Below.refl _ _).alloc (Nat.le_refl _) _⟩
  case round =>
    obtain ⟨i, v', hi, rfl, hP, hB⟩ := hrel
    have HP := Lib.hid hP
    have HB := Lib.hid hB
    clear hP hB
    by_cases hlt : i < vs.length
    · have hlb : lb < w.heap.size := World.block_lt_of_cell? w ⟨lb, i, none⟩ (HC.out i hlt)
      have ci : wr.cell? ⟨lb, i, none⟩ = some (.int .u64 (vs[i] : Int)) := (HB.out.cell (p := ⟨lb, i, none⟩) hlb).trans (HC.out i hlt)
      have hvi := Lib.hid (HV.out vs[i] (List.getElem_mem hlt))
      have hli : (lesL n (vs.take i)).length ≤ 50000 := by
        rw [lesL_len, List.length_take]
        have : min i vs.length * n ≤ 9 * 4 := Nat.mul_le_mul (by omega) (by omega)
        omega
      obtain ⟨vi, hvi2⟩ : ∃ vi, vi = vs[i] := ⟨_, rfl⟩
      rw [← hvi2] at ci hvi
      have HVI := Lib.hid hvi2
      clear hvi2
      have HL := Lib.hid hli
      clear hli
      go_wp2_with fail
      refine (num_any w.heap.size v' _ vi n hn hvi.out HL.out wr HP.out).mono ?_
      rintro e w1 ⟨rfl, v2, hP2, hO2, _⟩
      have HB2 : Hid (Below w.heap.size w w1) := Lib.hid (HB.out.trans (hO2.below HB.out.size (fun k hk hh => by
        rcases hh with h | h
        · omega
        · have := owns_block HP.out.row k h; omega)))
      have HP2 := Lib.hid hP2
      clear hP2 hO2
      go_wp2_with fail
      go_roundw
      case rel => exact ⟨i + 1, v2, by omega, by go_num, by rw [lesL_take n vs i hlt, ← HVI.out]; exact HP2.out, HB2.out⟩
      case measure => simp [intOf]; omega
    · have hil : i = vs.length := by omega
      have hP3 : Hid (PkAt wr w.heap.size v' (lesL n vs)) := by
        have := HP.out
        rw [hil, List.take_length] at this
        exact Lib.hid this
      have hpos : 0 < (lesL n vs).length := by rw [lesL_len]; exact Nat.mul_pos h0 (by omega)
      go_wp2_with fail
      refine (done_any w.heap.size v' (lesL n vs) hpos wr hP3.out).mono ?_
      rintro e w1 ⟨rfl, hw1⟩
      have hw1 := hw1.symm
      subst hw1
      go_wp2_with fail
      go_ret
      exact ⟨rfl, HB.out⟩
end Go.Proofs.YtnplcjcbojjecaaDoor
