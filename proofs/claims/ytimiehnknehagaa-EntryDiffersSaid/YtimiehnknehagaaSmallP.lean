import Derived.Test.YtimiehnknehagaaChainPlain
set_option linter.unusedSimpArgs false
set_option linter.unusedVariables false
namespace Go.Proofs.Ytimiehnknehagaa
open Go.RowKit
/-! annuitylaw26.small. -/
def smallLoan (x : LoanM) : Prop := 0 ≤ x.principal ∧ 0 ≤ x.interest ∧ 0 ≤ x.fees ∧ x.interest ≤ 1000000000000000000 ∧ x.principal ≤ 10000000000000 ∧ x.fees ≤ 10000000000000
def SmallPost (ls : List LoanM) (w : World) (e : Ending) (w' : World) : Prop := ∃ b : Bool, e = .returned (.bool b) ∧ (b = true → ∀ x ∈ ls, smallLoan x) ∧ Below w.heap.size w w'
set_option maxRecDepth 100000 in
set_option maxHeartbeats 2000000 in
theorem small26_any (v : Value) (s : StateM) (w : World) (h : StAt w v s) : Calls Try.prog 20 #[v] w (SmallPost s.loans w) := by
  obtain ⟨vl, vb, rfl, hl, hb⟩ := h.cells
  obtain ⟨adl, cl, rfl, hl1, hl2, hls⟩ := hl
  obtain ⟨vs, _, ⟨adb, cb, rfl, _, _, _⟩, _⟩ := hb
  obtain ⟨n, hn⟩ : ∃ n, n = s.loans.length := ⟨_, rfl⟩
  rw [← hn] at hl1 hl2 ⊢
  have HN := Lib.hid hn
  have HL := Lib.hid hls
  clear h hn hls
  obtain ⟨bs, hbs⟩ : ∃ bs, bs = w.heap.size := ⟨_, rfl⟩
  obtain ⟨w0, hw0⟩ : ∃ w0, w0 = w.alloc (.cells (stCells s (.slice adl n cl) (.slice adb vs.length cb)) 27) := ⟨_, rfl⟩
  have hb0 : Below w.heap.size w w0 := by rw [hw0]; exact (Below.refl _ w).alloc (Nat.le_refl _) _
  have hk0 : Blk w0 bs (stCells s (.slice adl n cl) (.slice adb vs.length cb)) 27 := by rw [hw0, hbs]; exact Blk.new _ _ _
  have HK0 := Lib.hid hk0
  have HB0 := Lib.hid hb0
  have HL0 := Lib.hid (HL.out.below hb0)
  have HBS := Lib.hid hbs
  unfold stCells at hw0 ⊢
  have HW := Lib.hid hw0
  clear hw0 hb0 hk0 hbs HL
  go_enter Try.func20, Try.ntmps20
  go_wp2_with fail
  rw [← HBS.out, ← HW.out]
  clear HW
  go_loopw [3] (fun x wr => ∃ (i : Nat), i ≤ n ∧ x = .int .i64 i ∧ (∀ y ∈ s.loans.take i, smallLoan y) ∧ Below w0.heap.size w0 wr) (fun x _ => n - (intOf x).toNat)
  case atStart => exact ⟨0, Nat.zero_le _, rfl, by simp, Below.refl _ _⟩
  case round =>
    obtain ⟨i, hi, rfl, hA, hB⟩ := hrel
    have HA := Lib.hid hA
    have HB9 := Lib.hid hB
    have HB := Lib.hid (HB0.out.trans (hB.mono HB0.out.size))
    have k1 : wr.cell? ⟨bs, 1, none⟩ = some (.slice adl n cl) := (hB.cell (p := ⟨bs, 1, none⟩) HK0.out.lt).trans (HK0.out.cell 1)
    have HBL : Hid (bs < wr.heap.size) := Lib.hid (Nat.lt_of_lt_of_le HK0.out.lt hB.size)
    clear hA hB
    by_cases hlt : i < n
    · have g1 : (i : Int) < (n : Int) := by omega
      obtain ⟨x, hx⟩ : ∃ x, s.loans[i]? = some x := ⟨s.loans[i]'(by have := HN.out; omega), List.getElem?_eq_getElem _⟩
      obtain ⟨be, oe, rfl, hbe, hc⟩ := loan_cell HL0.out i x hx
      have HX := Lib.hid hx
      have cc : ∀ (j : Nat) u, (encLoan x)[j]? = some u → wr.cell? ⟨be, oe + i * 13 + j, none⟩ = some u := fun j u hj => (HB9.out.cell (p := ⟨be, oe + i * 13 + j, none⟩) hbe).trans (hc j u hj)
      have f0 : wr.cell? ⟨be, oe + i * 13, none⟩ = some (.int .i64 x.id) := cc 0 _ rfl
      have f1 : wr.cell? ⟨be, oe + i * 13 + 1, none⟩ = some (.int .i64 x.principal) := cc 1 _ rfl
      have f2 : wr.cell? ⟨be, oe + i * 13 + 2, none⟩ = some (.int .i64 x.interest) := cc 2 _ rfl
      have f3 : wr.cell? ⟨be, oe + i * 13 + 3, none⟩ = some (.int .i64 x.subsidy) := cc 3 _ rfl
      have f4 : wr.cell? ⟨be, oe + i * 13 + 4, none⟩ = some (.int .i64 x.fees) := cc 4 _ rfl
      have f5 : wr.cell? ⟨be, oe + i * 13 + 5, none⟩ = some (.int .i64 x.ppm) := cc 5 _ rfl
      have f6 : wr.cell? ⟨be, oe + i * 13 + 6, none⟩ = some (.bool x.subs) := cc 6 _ rfl
      have f7 : wr.cell? ⟨be, oe + i * 13 + 7, none⟩ = some (.int .i64 x.status) := cc 7 _ rfl
      have f8 : wr.cell? ⟨be, oe + i * 13 + 8, none⟩ = some (.int .i64 x.closed) := cc 8 _ rfl
      have f9 : wr.cell? ⟨be, oe + i * 13 + 9, none⟩ = some (.int .i64 x.entered) := cc 9 _ rfl
      have f10 : wr.cell? ⟨be, oe + i * 13 + 10, none⟩ = some (.int .i64 x.level) := cc 10 _ rfl
      have f11 : wr.cell? ⟨be, oe + i * 13 + 11, none⟩ = some (.int .i64 x.far) := cc 11 _ rfl
      have f12 : wr.cell? ⟨be, oe + i * 13 + 12, none⟩ = some (.int .i64 x.count) := cc 12 _ rfl
      clear cc hc hx
      by_cases c1 : x.principal < 0
      · skip
        go_wp2_with fail
        go_ret
        exact ⟨false, rfl, (fun h => by cases h), HB.out.alloc HB.out.size _⟩
      · by_cases c2 : x.interest < 0
        · skip
          go_wp2_with fail
          go_ret
          exact ⟨false, rfl, (fun h => by cases h), HB.out.alloc HB.out.size _⟩
        · by_cases c3 : x.fees < 0
          · skip
            go_wp2_with fail
            go_ret
            exact ⟨false, rfl, (fun h => by cases h), HB.out.alloc HB.out.size _⟩
          · by_cases c4 : 1000000000000000000 < x.interest
            · skip
              go_wp2_with fail
              go_ret
              exact ⟨false, rfl, (fun h => by cases h), HB.out.alloc HB.out.size _⟩
            · by_cases c5 : 10000000000000 < x.principal
              · skip
                go_wp2_with fail
                go_ret
                exact ⟨false, rfl, (fun h => by cases h), HB.out.alloc HB.out.size _⟩
              · by_cases c6 : 10000000000000 < x.fees
                · skip
                  go_wp2_with fail
                  go_ret
                  exact ⟨false, rfl, (fun h => by cases h), HB.out.alloc HB.out.size _⟩
                · have hsm : smallLoan x := ⟨by omega, by omega, by omega, by omega, by omega, by omega⟩
                  have HSM := Lib.hid hsm
                  clear hsm
                  go_wp2_with fail
                  go_roundw
                  case rel =>
                    refine ⟨i + 1, by omega, by go_num, ?_, HB9.out.alloc HB9.out.size _⟩
                    rw [List.take_add_one, HX.out]
                    intro y hy
                    rcases List.mem_append.1 hy with h9 | h9
                    · exact HA.out y h9
                    · simp at h9; subst h9; exact HSM.out
                  case measure => simp [intOf]; omega
    · have g1 : ¬ (i : Int) < (n : Int) := by omega
      have hin : n = i := by omega
      have hall : Hid (∀ y ∈ s.loans, smallLoan y) := Lib.hid (by
        have h9 := HA.out
        rwa [← hin, HN.out, List.take_length] at h9)
      clear hin
      go_wp2_with fail
      go_ret
      exact ⟨true, rfl, fun _ => hall.out, HB.out⟩
end Go.Proofs.Ytimiehnknehagaa
