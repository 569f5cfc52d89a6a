import Derived.Test.YtcakellhellddaaGreatDoorKStr
set_option linter.unusedSimpArgs false
set_option linter.unusedVariables false
namespace Go.Proofs.YtcakellhellddaaGreatDoor
open Go.RowKit
abbrev StepJ := Int × Int × Int × ByteArray × Unit
def kI12 : Kd Tryz.prog 3 Int := Kd.int Tryz.underlying3 (by kernel_rfl)
def kStepJ : Kd Tryz.prog 40 StepJ := Kd.struct Tryz.underlying40 (Fk.cons kI12 (Fk.cons kI12 (Fk.cons kI12 (Fk.cons kSt Fk.nil)))) 4 (by kernel_rfl)
def kStepsJ : Kd Tryz.prog 22 (List StepJ) := Kd.slice Tryz.underlying22 (by kernel_rfl) kStepJ (by decide)
def wf64J (n : Int) : Prop := -9223372036854775808 ≤ n ∧ n ≤ 9223372036854775807
theorem wf64J_of {n : Int} (h : (Lit.int .i64 n).wf = true) : wf64J n := by
  simpa [wf64J, Lit.wf, IntKind.min, IntKind.max, IntKind.signed, IntKind.bits] using h
theorem kStepJ_cells {w : World} {k n p : Int} {s : ByteArray} {u : Unit} {cs : List Value} (h : kStepJ.R w (k, n, p, s, u) cs) : cs = [.int .i64 k, .int .i64 n, .int .i64 p, .string s] ∧ wf64J k ∧ wf64J n ∧ wf64J p ∧ s.size ≤ maxLen := by
  obtain ⟨hl, ⟨h1, w1⟩, ⟨h2, w2⟩, ⟨h3, w3⟩, ⟨h4, w4⟩, _⟩ := h
  match cs, hl with
  | [c0, c1, c2, c3], _ =>
    simp [kI12, kSt, Kd.int, Kd.str] at h1 h2 h3 h4
    subst h1 h2 h3 h4
    exact ⟨rfl, wf64J_of w1, wf64J_of w2, wf64J_of w3, w4⟩
/-- A list of steps that came in. -/
def StepsAt (w : World) (ad : Option Addr) (l : List StepJ) : Prop :=
  ∀ (i : Nat) (x : StepJ), l[i]? = some x → ∃ b o, ad = some ⟨b, o, none⟩ ∧ b < w.heap.size ∧ w.cell? ⟨b, o + i * 4, none⟩ = some (.int .i64 x.1) ∧ w.cell? ⟨b, o + i * 4 + 1, none⟩ = some (.int .i64 x.2.1) ∧
      w.cell? ⟨b, o + i * 4 + 2, none⟩ = some (.int .i64 x.2.2.1) ∧ w.cell? ⟨b, o + i * 4 + 3, none⟩ = some (.string x.2.2.2.1) ∧ wf64J x.1 ∧ wf64J x.2.1 ∧ wf64J x.2.2.1 ∧ x.2.2.2.1.size ≤ maxLen
theorem steps_in {w : World} {l : List StepJ} {v : Value} (h : SlR kStepJ w l v) : ∃ ad cap, v = .slice ad l.length cap ∧ l.length ≤ cap ∧ cap ≤ maxLen ∧ StepsAt w ad l := by
  obtain ⟨ad, cap, h1, h2, h3, h4, h5⟩ := h
  refine ⟨ad, cap, h1, h2, h3, fun i x hi => ?_⟩
  obtain ⟨b, o, cs, e1, e2, e3, e4⟩ := h5 i x hi
  obtain ⟨rfl, w1, w2, w3, w4⟩ := kStepJ_cells e4
  have c0 := e3 0 (by simp)
  exact ⟨b, o, e1, World.block_lt_of_cell? w _ c0, c0, e3 1 (by simp), e3 2 (by simp), e3 3 (by simp), w1, w2, w3, w4⟩
theorem StepsAt.below {w w' : World} {ad : Option Addr} {l : List StepJ} (h : StepsAt w ad l) (hb : Below w.heap.size w w') : StepsAt w' ad l := fun i x hi => by
  obtain ⟨b, o, h1, h2, c0, c1, c2, c3, h3⟩ := h i x hi
  exact ⟨b, o, h1, Nat.lt_of_lt_of_le h2 hb.size, (hb.cell (p := ⟨b, o + i * 4, none⟩) h2).trans c0, (hb.cell (p := ⟨b, o + i * 4 + 1, none⟩) h2).trans c1, (hb.cell (p := ⟨b, o + i * 4 + 2, none⟩) h2).trans c2, (hb.cell (p := ⟨b, o + i * 4 + 3, none⟩) h2).trans c3, h3⟩
def FairRes12 (l : List StepJ) (w : World) (e : Ending) (w' : World) : Prop := ∃ b : Bool, e = .returned (.bool b) ∧ (b = true → l.length ≤ 60 ∧ ∀ x ∈ l, x.2.2.2.1.size ≤ 61000) ∧ w' = w
set_option maxHeartbeats 1000000 in
theorem fair12_any (w : World) (ad : Option Addr) (cap : Nat) (l : List StepJ) (h : StepsAt w ad l) (hl : l.length ≤ maxLen) :
    Calls Tryz.prog 4 #[.slice ad l.length cap] w (FairRes12 l w) := by
  obtain ⟨n, hn⟩ : ∃ n, n = l.length := ⟨_, rfl⟩
  rw [← hn] at hl ⊢
  have HN := Lib.hid hn
  have HC := Lib.hid h
  clear hn h
  unfold maxLen at hl
  go_enter Tryz.func4, Tryz.ntmps4
  go_wp2_with fail
  go_loop [3, 4] (fun y x => ∃ (i : Nat) (s : Int), i ≤ n ∧ x = .int .i64 i ∧ y = .int .i64 s ∧ (∀ j x, j < i → l[j]? = some x → x.2.2.2.1.size ≤ 61000)) (fun _ x => n - (intOf x).toNat)
  case atStart => exact ⟨0, 0, Nat.zero_le _, rfl, rfl, fun j x hj => by omega⟩
  case round =>
    obtain ⟨i, s, hi, rfl, rfl, hA⟩ := hrel
    have HA := Lib.hid hA
    clear hA
    by_cases hlt : i < n
    · obtain ⟨x, hx⟩ : ∃ x, l[i]? = some x := ⟨l[i]'(by have := HN.out; omega), List.getElem?_eq_getElem _⟩
      obtain ⟨b, o, rfl, hb, c0, c1, c2, c3, _, _, _, hs⟩ := HC.out i x hx
      unfold maxLen at hs
      have HX := Lib.hid hx
      clear hx
      by_cases hbig : 61000 < x.2.2.2.1.size
      · have hb2 : (61000 : Int) < (x.2.2.2.1.size : Int) := by omega
        go_wp2
        go_ret
        exact ⟨_, rfl, (fun h => by cases h), rfl⟩
      · have hb2 : ¬ (61000 : Int) < (x.2.2.2.1.size : Int) := by omega
        go_wp2
        refine ⟨⟨i + 1, _, by omega, by go_num, rfl, fun j y hj hy => ?_⟩, ?_⟩
        · by_cases hji : j < i
          · exact HA.out j y hji hy
          · have hji : j = i := by omega
            rw [hji, HX.out] at hy
            obtain rfl := Option.some.inj hy
            omega
        · simp [intOf]; omega
    · have hin : i = n := by omega
      by_cases h3 : n ≤ 60
      · by_cases h90 : s ≤ 200000
        all_goals go_wp2_with fail
        all_goals go_ret
        all_goals refine ⟨_, rfl, fun _ => ⟨by have := HN.out; omega, fun x hx => ?_⟩, rfl⟩
        all_goals
          obtain ⟨j, hj⟩ := List.getElem?_of_mem hx
          refine HA.out j x ?_ hj
          have := (List.getElem?_eq_some_iff.1 hj).1
          have := HN.out
          omega
      · have h3' : ¬ (n : Int) ≤ 60 := by omega
        go_wp2_with fail
        go_ret
        exact ⟨_, rfl, (fun h => by cases h), rfl⟩
end Go.Proofs.YtcakellhellddaaGreatDoor
