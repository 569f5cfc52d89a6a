import Derived.Test.YtcienfbkcfhfcaaKinds11
import Derived.Test.YtcienfbkcfhfcaaDiskWakes
set_option linter.unusedSimpArgs false
set_option linter.unusedVariables false
namespace Go.Proofs.Ytcienfbkcfhfcaa
open Go.RowKit
abbrev StepT := Int × Int × Int × ByteArray × Unit
def fairB (l : List StepT) : Bool := l.all (fun x => decide (x.2.2.2.1.size ≤ 2000)) && decide (l.length ≤ 150)
theorem steps_cells {w : World} {l : List StepT} {v : Value} (h : SlR kStep w l v) : ∃ ad cap, v = .slice ad l.length cap ∧ l.length ≤ cap ∧ cap ≤ maxLen ∧
    ∀ (i : Nat) (x : StepT), l[i]? = some x → ∃ b o, ad = some ⟨b, o, none⟩ ∧ w.cell? ⟨b, o + i * 4, none⟩ = some (.int .i64 x.1) ∧ w.cell? ⟨b, o + i * 4 + 1, none⟩ = some (.int .i64 x.2.1) ∧
      w.cell? ⟨b, o + i * 4 + 2, none⟩ = some (.int .i64 x.2.2.1) ∧ w.cell? ⟨b, o + i * 4 + 3, none⟩ = some (.string x.2.2.2.1) ∧ wf64 x.1 ∧ wf64 x.2.1 ∧ wf64 x.2.2.1 ∧ x.2.2.2.1.size ≤ maxLen := by
  obtain ⟨ad, cap, h1, h2, h3, h4, h5⟩ := h
  refine ⟨ad, cap, h1, h2, h3, fun i x hi => ?_⟩
  obtain ⟨b, o, cs, e1, e2, e3, e4⟩ := h5 i x hi
  obtain ⟨rfl, w1, w2, w3, w4⟩ := kStep_cells e4
  exact ⟨b, o, e1, e3 0 (by simp), e3 1 (by simp), e3 2 (by simp), e3 3 (by simp), w1, w2, w3, w4⟩
theorem fair_any (w : World) (v : Value) (l : List StepT) (h : SlR kStep w l v) :
    Calls Try.prog 21 #[v] w fun e w' => e = .returned (.bool (fairB l)) ∧ w' = w := by
  obtain ⟨ad, cap, rfl, h2, h3, h4⟩ := steps_cells h
  clear h
  unfold maxLen at h3
  go_enter Try.func21, Try.ntmps21
  go_wp2
  go_loop [3] (fun i => ∃ k : Nat, k ≤ l.length ∧ i = .int .i64 k ∧ (l.take k).all (fun x => decide (x.2.2.2.1.size ≤ 2000)) = true) (fun i => l.length - (intOf i).toNat)
  case atStart => exact ⟨0, Nat.zero_le _, rfl, rfl⟩
  case round =>
    obtain ⟨k, hk, rfl, hall⟩ := hrel
    have HA := Lib.hid hall
    clear hall
    by_cases hlt : k < l.length
    · obtain ⟨x, hx⟩ : ∃ x, l[k]? = some x := ⟨_, List.getElem?_eq_getElem hlt⟩
      obtain ⟨b, o, rfl, c0, c1, c2, c3, _, _, _, hs⟩ := h4 k x hx
      have HX := Lib.hid hx
      clear h4 hx
      unfold maxLen at hs
      have hta : Hid ((l.take (k + 1)).all (fun x => decide (x.2.2.2.1.size ≤ 2000)) = decide (x.2.2.2.1.size ≤ 2000)) := by
        refine Lib.hid ?_
        have hxe : l[k] = x := by
          have := HX.out
          rw [List.getElem?_eq_getElem hlt] at this
          injection this
        rw [List.take_succ_eq_append_getElem hlt, List.all_append, HA.out, hxe]; simp
      by_cases hb : 2000 < x.2.2.2.1.size
      · go_wp2
        go_ret
        have hf : fairB l = false := by
          unfold fairB
          have : (l.all (fun x => decide (x.2.2.2.1.size ≤ 2000))) = false := by
            rw [List.all_eq_false]
            exact ⟨x, List.mem_of_getElem? HX.out, by simp; omega⟩
          rw [this]; rfl
        exact ⟨by rw [hf]; rfl, rfl⟩
      · go_wp2
        go_round
        case rel => exact ⟨k + 1, by omega, by go_num, by rw [hta.out]; simp; omega⟩
        case measure => simp [intOf]; omega
    · have hk2 : k = l.length := by omega
      clear h4
      go_wp2
      go_ret
      have hf : fairB l = decide ((l.length : Int) ≤ 150) := by
        have h1 := HA.out
        rw [List.take_of_length_le (by omega)] at h1
        unfold fairB
        rw [h1, Bool.true_and]
        simp; omega
      exact ⟨by rw [hf]; rfl, rfl⟩
end Go.Proofs.Ytcienfbkcfhfcaa
