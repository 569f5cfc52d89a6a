import Derived.Test.YtnplcjcbojjecaaDoorKStr
set_option linter.unusedSimpArgs false
set_option linter.unusedVariables false
namespace Go.Proofs.YtnplcjcbojjecaaDoor
open Go.RowKit
/-- A test that lets only short lists by. -/
def FairRes (l : List ByteArray) (w : World) (e : Ending) (w' : World) : Prop := ∃ b : Bool, e = .returned (.bool b) ∧ (b = true → l.length ≤ 300 ∧ ∀ x ∈ l, x.size ≤ 2000) ∧ w' = w
set_option maxHeartbeats 1000000 in
/-- Where lists are fair they are short. -/
theorem fair10_any (v : Value) (l : List ByteArray) (w : World) (h : StrsAt w v l) (hl : l.length ≤ maxLen) (hs : ∀ x ∈ l, x.size ≤ maxLen) :
    Calls Tryd.prog 19 #[v] w (FairRes l w) := by
  obtain ⟨a, c, rfl, hmax, hc⟩ := h.out
  obtain ⟨n, hn⟩ : ∃ n, n = l.length := ⟨_, rfl⟩
  rw [← hn] at hmax hl ⊢
  have HN := Lib.hid hn
  have HC := Lib.hid hc
  have HS := Lib.hid hs
  clear hn hc hs h
  unfold maxLen at hl
  go_enter Tryd.func19, Tryd.ntmps19
  go_wp2_with fail
  go_loop [3, 4] (fun y x => ∃ (i : Nat) (s : Int), i ≤ n ∧ x = .int .i64 i ∧ y = .int .i64 s ∧ (∀ j x, j < i → l[j]? = some x → x.size ≤ 2000)) (fun _ x => n - (intOf x).toNat)
  case atStart => exact ⟨0, 0, Nat.zero_le _, rfl, rfl, fun j x hj => by omega⟩
  case round =>
    obtain ⟨i, s, hi, rfl, rfl, hA⟩ := hrel
    have HA := Lib.hid hA
    clear hA
    by_cases hlt : i < n
    · obtain ⟨x, hx⟩ : ∃ x, l[i]? = some x := ⟨l[i]'(by have := HN.out; omega), List.getElem?_eq_getElem _⟩
      obtain ⟨b, o, rfl, hb, hc⟩ := HC.out (by have := HN.out; omega)
      have ci := hc i x hx
      have hxs := HS.out x (List.mem_of_getElem? hx)
      unfold maxLen at hxs
      have HX := Lib.hid hx
      clear hc hx
      by_cases hbig : 2000 < x.size
      · have hb2 : (2000 : Int) < (x.size : Int) := by omega
        go_wp2
        go_ret
        exact ⟨_, rfl, (fun h => by cases h), rfl⟩
      · have hb2 : ¬ (2000 : Int) < (x.size : Int) := by omega
        go_wp2
        refine ⟨⟨i + 1, _, by omega, by go_num, rfl, fun j y hj hy => ?_⟩, ?_⟩
        · by_cases hji : j < i
          · exact HA.out j y hji hy
          · have hji : j = i := by omega
            rw [hji, HX.out] at hy
            obtain rfl := Option.some.inj hy
            omega
        · simp [intOf]; omega
    · have hin : i = n := by omega
      by_cases h3 : n ≤ 300
      · by_cases h90 : s ≤ 90000
        all_goals go_wp2_with fail
        all_goals go_ret
        all_goals refine ⟨_, rfl, fun _ => ⟨by have := HN.out; omega, fun x hx => ?_⟩, rfl⟩
        all_goals
          obtain ⟨j, hj⟩ := List.getElem?_of_mem hx
          refine HA.out j x ?_ hj
          have := (List.getElem?_eq_some_iff.1 hj).1
          have := HN.out
          omega
      · have h4 : ¬ (n : Int) ≤ 300 := by omega
        go_wp2_with fail
        go_ret
        exact ⟨_, rfl, (fun h => by cases h), rfl⟩
end Go.Proofs.YtnplcjcbojjecaaDoor
