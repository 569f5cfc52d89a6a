import Derived.Test.YtimiehnknehagaaSmallP
set_option linter.unusedSimpArgs false
set_option linter.unusedVariables false
namespace Go.Proofs.Ytimiehnknehagaa
open Go.RowKit
/-! annuitykeep.Large. -/
def LargePost (s : StateM) (w : World) (e : Ending) (w' : World) : Prop := ∃ b : Bool, e = .returned (.bool b) ∧ (b = false → s.loans.length ≤ 100 ∧ s.bills.length ≤ 400 ∧ ∀ y ∈ s.bills, y.loans.length ≤ 100) ∧ Below w.heap.size w w'
set_option maxRecDepth 100000 in
set_option maxHeartbeats 2000000 in
theorem large_any (v : Value) (s : StateM) (w : World) (h : StAt w v s) : Calls Try.prog 7 #[v] w (LargePost s w) := by
  obtain ⟨vl, vb, rfl, hl, hb⟩ := h.cells
  obtain ⟨adl, cl, rfl, hl1, hl2, hls⟩ := hl
  obtain ⟨vs, hvs, ⟨adb, cb, rfl, hb1, hb2, hbs0⟩, hbl⟩ := hb
  obtain ⟨n, hn⟩ : ∃ n, n = s.loans.length := ⟨_, rfl⟩
  obtain ⟨m, hm⟩ : ∃ m, m = vs.length := ⟨_, rfl⟩
  rw [← hn] at hl1 hl2 ⊢
  rw [← hm] at hb1 hb2 ⊢
  have HN := Lib.hid hn
  have HM := Lib.hid hm
  have HVS := Lib.hid hvs
  have HBL0 := Lib.hid hbl
  have HSB := Lib.hid hbs0
  have hlenb : Hid (s.bills.length = m) := Lib.hid (by rw [← hvs, List.length_map, hm])
  clear h hn hls hm hvs hbl hbs0
  obtain ⟨bs, hbs⟩ : ∃ bs, bs = w.heap.size := ⟨_, rfl⟩
  obtain ⟨w0, hw0⟩ : ∃ w0, w0 = w.alloc (.cells (stCells s (.slice adl n cl) (.slice adb m cb)) 27) := ⟨_, rfl⟩
  have hb0 : Below w.heap.size w w0 := by rw [hw0]; exact (Below.refl _ w).alloc (Nat.le_refl _) _
  have hk0 : Blk w0 bs (stCells s (.slice adl n cl) (.slice adb m cb)) 27 := by rw [hw0, hbs]; exact Blk.new _ _ _
  have HB0 := Lib.hid hb0
  have HSB0 := Lib.hid (HSB.out.below hb0)
  have HBS := Lib.hid hbs
  have k1 : w0.cell? ⟨bs, 1, none⟩ = some (.slice adl n cl) := hk0.cell 1
  have k6 : w0.cell? ⟨bs, 6, none⟩ = some (.slice adb m cb) := hk0.cell 6
  unfold stCells at hw0 ⊢
  have HW := Lib.hid hw0
  clear hw0 hb0 hk0 hbs
  by_cases b1 : 100 < n
  · have g1 : (100 : Int) < (n : Int) := by omega
    go_enter Try.func7, Try.ntmps7
    go_wp2_with fail
    go_ret
    exact ⟨true, rfl, (fun h => by cases h), by have := HB0.out; rw [HW.out] at this; exact this⟩
  · have g1 : ¬ (100 : Int) < (n : Int) := by omega
    by_cases b2 : 400 < m
    · have g2 : (400 : Int) < (m : Int) := by omega
      go_enter Try.func7, Try.ntmps7
      go_wp2_with fail
      go_ret
      exact ⟨true, rfl, (fun h => by cases h), by have := HB0.out; rw [HW.out] at this; exact this⟩
    · have g2 : ¬ (400 : Int) < (m : Int) := by omega
      go_enter Try.func7, Try.ntmps7
      go_wp2_with fail
      rw [← HBS.out, ← HW.out]
      clear HW
      go_loopw [3] (fun x wr => ∃ (i : Nat), i ≤ m ∧ x = .int .i64 i ∧ (∀ y ∈ vs.take i, y.1.loans.length ≤ 100) ∧ wr = w0) (fun x _ => m - (intOf x).toNat)
      case atStart => exact ⟨0, Nat.zero_le _, rfl, by simp, rfl⟩
      case round =>
        obtain ⟨i, hi, rfl, hA, hq⟩ := hrel
        subst hq
        have HA := Lib.hid hA
        clear hA
        by_cases hlt : i < m
        · have g3 : (i : Int) < (m : Int) := by omega
          obtain ⟨x, hx⟩ : ∃ x, vs[i]? = some x := ⟨vs[i]'(by have := HM.out; omega), List.getElem?_eq_getElem _⟩
          obtain ⟨be, oe, rfl, hbe, hc⟩ := HSB0.out (by have := HM.out; omega)
          obtain ⟨ax, cx, hxv, _, _, _⟩ := HBL0.out x (List.mem_of_getElem? hx)
          have f5 := hc i x hx 5 _ rfl
          rw [hxv] at f5
          have HX := Lib.hid hx
          obtain ⟨q, hq⟩ : ∃ q, q = x.1.loans.length := ⟨_, rfl⟩
          rw [← hq] at f5
          have HQ := Lib.hid hq
          clear hc hx hxv hq
          by_cases c1 : 100 < q
          · have g4 : (100 : Int) < (q : Int) := by omega
            go_wp2_with fail
            go_ret
            exact ⟨true, rfl, (fun h => by cases h), HB0.out⟩
          · have g4 : ¬ (100 : Int) < (q : Int) := by omega
            go_wp2_with fail
            go_roundw
            case rel =>
              refine ⟨i + 1, by omega, by go_num, ?_, by first | trivial | rfl⟩
              rw [List.take_add_one, HX.out]
              intro y hy
              rcases List.mem_append.1 hy with h9 | h9
              · exact HA.out y h9
              · simp at h9; subst h9; rw [← HQ.out]; omega
            case measure => simp [intOf]; omega
        · have g3 : ¬ (i : Int) < (m : Int) := by omega
          have hin : m = i := by omega
          have hall : Hid (∀ y ∈ s.bills, y.loans.length ≤ 100) := Lib.hid (by
            have h9 := HA.out
            rw [← hin, HM.out, List.take_length] at h9
            intro y hy
            rw [← HVS.out] at hy
            obtain ⟨z, hz, rfl⟩ := List.mem_map.1 hy
            exact h9 z hz)
          clear hin
          go_wp2_with fail
          go_ret
          exact ⟨false, rfl, fun _ => ⟨by rw [← HN.out]; omega, by rw [hlenb.out]; omega, hall.out⟩, HB0.out⟩
end Go.Proofs.Ytimiehnknehagaa
