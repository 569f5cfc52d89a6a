import Derived.Test.YtcakellhellddaaGreatDoorConv
import Derived.Test.YtcakellhellddaaGreatDoorProg
set_option linter.unusedSimpArgs false
set_option linter.unusedVariables false
namespace Go.Proofs.YtcakellhellddaaGreatDoor
open Go.RowKit
theorem sl_u8 : Tryz.prog.underlying 64 = some (.slice 5) := by kernel_rfl
theorem u8_u : Tryz.prog.underlying 5 = some (.int .u8) := by kernel_rfl
theorem str_u : Tryz.prog.underlying 9 = some .string := by kernel_rfl
theorem u8_info : (Tryz.prog.info? 5).map (fun i => (i.zero, i.size, i.bytes)) = some (some (.int .u8 0), 1, 1) := by kernel_rfl
/-- n bytes 00. -/
def zerosB (n : Nat) : ByteArray := ⟨(List.replicate n (0 : UInt8)).toArray⟩
theorem zeros_any (n : Nat) (hn : n ≤ 281474976710656) (w : World) :
    Calls Tryz.prog 56 #[.int .i64 n] w fun e w' => e = .returned (.string (zerosB n)) ∧ Below w.heap.size w w' := by
  have hr := RowB.new w n 5
  go_enter Tryz.func56, Tryz.ntmps56
  go_wp2_with (first | ((with_reducible refine at_make1 sl_u8 u8_info rfl .i64 .i64 n ?_ ?_ ?_ ?_ ?_); exact rfl; exact rfl; omega; omega) | ((with_reducible refine at_toStr sl_u8 u8_u str_u w.heap.size 0 n (List.replicate n 0) n ?_ ?_ ?_ ?_); exact List.length_replicate.symm; exact rfl; (intro j hj; rw [Nat.zero_add]; exact (hr j hj).1)))
  go_ret
  exact ⟨rfl, (Below.refl _ _).alloc (Nat.le_refl _) _⟩
theorem zeros_neg (n : Int) (hn : n < 0) (w : World) :
    Calls Tryz.prog 56 #[.int .i64 n] w fun e w' => e = .returned (.string ByteArray.empty) ∧ w' = w := by
  go_enter Tryz.func56, Tryz.ntmps56
  go_wp2
  go_ret
  exact ⟨rfl, rfl⟩
end Go.Proofs.YtcakellhellddaaGreatDoor
