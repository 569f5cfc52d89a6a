import Derived.Test.YtcienfbkcfhfcaaCrcOf
import Derived.Test.YtcienfbkcfhfcaaLw
import Derived.Great.Walk
import Derived.Great.BuildSlice
import Derived.Deep.WholeRow
set_option linter.unusedSimpArgs false
set_option linter.unusedVariables false
namespace Go.Proofs.Ytcienfbkcfhfcaa
open Go.RowKit Go.Great
theorem mrow_set (l : List W32) (i : Nat) (x : W32) : (mrow l).setIfInBounds i (.int .u32 (tn x)) = mrow (l.set i x) := by
  simp [mrow, mrowL, List.map_set]
attribute [local go_sem] mrow_set
theorem run_alloc_mat (ev : Operand → Value) (d : Option Tmp) (ty : TypeId) (ps : String) (af : Array Edge) (g : Option (Nat × Bool)) (w : World) :
    (execOp ev ⟨d, .alloc 93, ty, ps, af, g⟩).run Try.prog w = .ok (.value (.pointer (some ⟨w.heap.size, 0, none⟩))) (w.alloc (.cells (mrow z32) 93 (0, 0))) := by
  kernel_rfl
theorem mat_und : Try.prog.underlying 93 = some (.array 32 22) := by kernel_rfl
theorem mat_size : (Try.prog.info? 93).map (·.size) = some 32 := by kernel_rfl
theorem run_build_mat (a : Act) (d : Option Tmp) (ty : TypeId) (ps : String) (af : Array Edge) (g : Option (Nat × Bool)) (w : World) :
    (execOp a.eval ⟨d, .build 93 #[(0, .const (.int .u32 3988292384))], ty, ps, af, g⟩).run Try.prog w = .ok (.value (.agg (mrow (oneN 0)))) w := by
  kernel_rfl
theorem mrow_size32 {m : List W32} (h : m.length = 32) : (mrow m).size = 32 := by rw [mrow_size, h]
theorem mrow_all (m : List W32) : (mrow m).all (·.oneCell') = true := by
  simp [mrow, mrowL, Value.oneCell']
theorem mat_szl {m : List W32} (h : m.length = 32) : (Try.prog.info? 93).map (·.size) = some (mrowL m).length := by rw [mat_size, mrowL, List.length_map, h]
theorem mat_szi {m : List W32} (h : m.length = 32) : (Try.prog.info? 93).map (·.size) = some (mrow m).size := by rw [mrow_size32 h]; exact mat_size
theorem szs {m m' : List W32} (h : m.length = 32) (h' : m'.length = 32) : (mrow m).size = (mrow m').size := by rw [mrow_size32 h, mrow_size32 h']
section
variable {ops : Array Oper} {rest : List Oper} {a : Act} {w : World} {Q : Exit → Act → World → Prop} {d : Option Tmp} {ty : TypeId} {ps : String} {af : Array Edge} {x y : Operand}
theorem at_allocM (h : wpList Try.prog ops Q rest (a.put d (.pointer (some ⟨w.heap.size, 0, none⟩))) (w.alloc (.cells (mrow z32) 93))) :
    wpList Try.prog ops Q (⟨d, .alloc 93, ty, ps, af, none⟩ :: rest) a w :=
  Great.wpList_runTo rfl _ rfl _ _ (run_alloc_mat _ _ _ _ _ _ _) h
theorem at_buildM (h : wpList Try.prog ops Q rest (a.put d (.agg (mrow (oneN 0)))) w) :
    wpList Try.prog ops Q (⟨d, .build 93 #[(0, .const (.int .u32 3988292384))], ty, ps, af, none⟩ :: rest) a w :=
  Great.wpList_runTo rfl _ rfl _ _ (run_build_mat _ _ _ _ _ _ _) h
theorem at_storeM (g : Nat) (c c' : List W32) (hx : a.eval x = .pointer (some ⟨g, 0, none⟩)) (hy : a.eval y = .agg (mrow c')) (hg : w.heap[g]? = some (.cells (mrow c) 93))
    (hc : c.length = 32) (hc' : c'.length = 32) (h : wpList Try.prog ops Q rest (a.put d undef) (w.setRow g (mrow c'))) :
    wpList Try.prog ops Q (⟨d, .store 93 x y, ty, ps, af, none⟩ :: rest) a w :=
  wpList_store_row rfl 93 x y rfl g (mrow c') hx hy 93 _ hg (mat_szi hc') (szs hc hc') (mrow_all _) h
theorem at_loadM (g : Nat) (c : List W32) (hx : a.eval x = .pointer (some ⟨g, 0, none⟩)) (hg : w.heap[g]? = some (.cells (mrow c) 93))
    (hc : c.length = 32) (h : wpList Try.prog ops Q rest (a.put d (.agg (mrow c))) w) :
    wpList Try.prog ops Q (⟨d, .load 93 x, ty, ps, af, none⟩ :: rest) a w :=
  wpList_load_row rfl 93 x rfl g hx 93 _ (0, 0) _ hg mat_und rfl (mat_szi hc) h
theorem at_storeM_new (c c' : List W32) (g : Nat) (hx : a.eval x = .pointer (some ⟨g, 0, none⟩)) (hy : a.eval y = .agg (mrow c')) (hg : g = w.heap.size)
    (hc : c.length = 32) (hc' : c'.length = 32) (h : wpList Try.prog ops Q rest (a.put d undef) (w.alloc (.cells (mrow c') 93))) :
    wpList Try.prog ops Q (⟨d, .store 93 x y, ty, ps, af, none⟩ :: rest) a (w.alloc (.cells (mrow c) 93)) := by
  subst hg
  refine at_storeM w.heap.size c c' hx hy (heap_alloc_last w _) hc hc' ?_
  rw [World.setRow_alloc_new]
  exact h
theorem setCell_mat (w : World) (l : List W32) (i : Nat) (v : W32) :
    (w.alloc (.cells (mrow l) 93)).setCell ⟨w.heap.size, i, none⟩ (.int .u32 (tn v)) = w.alloc (.cells (mrow (l.set i v)) 93) := by
  rw [World.setCell_alloc_at _ _ _ _ _ rfl, mrow_set]
end
theorem wrap_shl (n : Nat) : IntKind.u32.wrap (1 * 2 ^ n) = tn (1#32 <<< n) := by
  rw [IntKind.wrap_u32]; unfold tn
  rw [BitVec.toNat_shiftLeft, Nat.shiftLeft_eq]; simp
theorem mat_cell {l : List W32} (hl : l.length = 32) {k : Nat} (h : k < 32) : (mrow l)[k]? = some (.int .u32 (tn (mAt l k))) := mrow_get l k (by omega)
set_option maxHeartbeats 400000 in
theorem one_any (w : World) :
    Calls Try.prog 53 #[] w fun e w' => e = .returned (.agg (mrow (oneN 32))) ∧ w' = (w.alloc (.cells (mrow (oneN 32)) 93 (0,0))).alloc (.cells (mrow (oneN 32)) 93 (0,0)) := by
  go_enter Try.func53, Try.ntmps53
  go_wp2_with (first | (with_reducible refine at_allocM ?_) | (with_reducible refine at_buildM ?_) | (refine at_storeM_new z32 (oneN 0) _ rfl rfl (by simp) z32_len (oneN_len _) ?_))
  go_loopw [2] (fun i wr => ∃ k : Nat, 1 ≤ k ∧ k ≤ 32 ∧ i = .int .i64 k ∧ wr = (w.alloc (.cells (mrow z32) 93)).alloc (.cells (mrow (oneN k)) 93)) (fun i _ => 32 - (intOf i).toNat)
  case atStart => exact ⟨1, by omega, by omega, rfl, rfl⟩
  case round =>
    obtain ⟨k, hk1, hk, rfl, rfl⟩ := hrel
    by_cases hlt : k < 32
    · have hc := mat_cell (oneN_len k) hlt
      have HS := Lib.hid (oneN_succ hk1)
      go_wp2
      go_roundw
      case rel => exact ⟨k + 1, by omega, by omega, by go_num, by rw [HS.out, ← mrow_set, ← wrap_shl, IntKind.wrap_u32]; simp⟩
      case measure => simp [intOf]; omega
    · have hk32 : k = 32 := by omega
      subst hk32
      go_wp2_with (first | ((with_reducible refine at_loadM (w.heap.size + 1) (oneN 32) ?_ ?_ ?_ ?_); exact rfl; exact heap_alloc2_new _ _ _; exact oneN_len _) | ((with_reducible refine at_storeM w.heap.size z32 (oneN 32) ?_ ?_ ?_ ?_ ?_ ?_); exact rfl; exact rfl; exact heap_alloc2_old _ _ _; exact z32_len; exact oneN_len _; rw [setRow_alloc2_old]))
      exact bodyPost_ret (results_cell_row rfl _ _ w.heap.size 93 _ (0, 0) _ rfl (heap_alloc2_old _ _ _) mat_und rfl (mat_szi (oneN_len _))) rfl ⟨rfl, rfl⟩
end Go.Proofs.Ytcienfbkcfhfcaa
