import Derived.Test.YtimiehnknehagaaEntP2
set_option linter.unusedSimpArgs false
set_option linter.unusedVariables false
namespace Go.Proofs.Ytimiehnknehagaa
open Go.RowKit
def isOf (a b : Int) (x : Ent) : Prop := x.1 = a ∧ x.2.1 = b
def IndexPost (l : List Ent) (a b : Int) (w : World) (e : Ending) (w' : World) : Prop :=
  Below w.heap.size w w' ∧ ((∃ (i : Nat) (x : Ent), e = .returned (.int .i64 (i : Int)) ∧ l[i]? = some x ∧ isOf a b x ∧ ∀ (j : Nat) y, j < i → l[j]? = some y → ¬ isOf a b y) ∨
    (e = .returned (.int .i64 (-1)) ∧ ∀ (j : Nat) y, l[j]? = some y → ¬ isOf a b y))
set_option maxHeartbeats 2000000 in
theorem index_any (va : Value) (l : List Ent) (a b : Int) (b1 b2 : Nat) (w : World) (ha : RowsAt encE 3 w va l) (h1 : w.cell? ⟨b1, 0, none⟩ = some (.int .i64 a)) (h2 : w.cell? ⟨b2, 0, none⟩ = some (.int .i64 b)) :
    Calls Try.prog 32 #[va, .func (.func 33) #[] #[.pointer (some ⟨b1, 0, none⟩), .pointer (some ⟨b2, 0, none⟩)]] w (IndexPost l a b w) := by
  obtain ⟨ad, c, rfl, hc1, hc2, hs⟩ := ha
  have l1 := World.block_lt_of_cell? w ⟨b1, 0, none⟩ h1
  have l2 := World.block_lt_of_cell? w ⟨b2, 0, none⟩ h2
  obtain ⟨n, hn⟩ : ∃ n, n = l.length := ⟨_, rfl⟩
  rw [← hn] at hc1 hc2 ⊢
  have HS := Lib.hid hs
  have HN := Lib.hid hn
  have H1 := Lib.hid h1
  have H2 := Lib.hid h2
  clear hs hn h1 h2
  have eg : ∀ args w, (callFunc 33 args).run Try.prog w = .ok (.enter 33 args) w := enters_of Try.func33 (by kernel_rfl) rfl
  go_enter Try.func32, Try.ntmps32
  go_wp2_with fail
  go_loopw [8] (fun y wr => ∃ (i : Nat), i ≤ n ∧ y = .int .i64 i ∧ (∀ (j : Nat) x, j < i → l[j]? = some x → ¬ isOf a b x) ∧ Below w.heap.size w wr) (fun y _ => n - (intOf y).toNat)
  case atStart => exact ⟨0, Nat.zero_le _, rfl, fun j x hj => by omega, Below.refl _ _⟩
  case round =>
    obtain ⟨i, hi, rfl, hA, hB⟩ := hrel
    have HA := Lib.hid hA
    have HB := Lib.hid hB
    clear hA hB
    by_cases hlt : i < n
    · have g1 : (i : Int) < (n : Int) := by omega
      obtain ⟨x, hx⟩ : ∃ x, l[i]? = some x := ⟨l[i]'(by have := HN.out; omega), List.getElem?_eq_getElem _⟩
      obtain ⟨be, oe, rfl, hbe, e0, e1, e2⟩ := encE_cell HS.out i x hx
      have HX := Lib.hid hx
      obtain ⟨x1, x2, x3⟩ := x
      dsimp only at e0 e1 e2
      have f0 := (HB.out.cell (p := ⟨be, oe + i * 3, none⟩) hbe).trans e0
      have f1 := (HB.out.cell (p := ⟨be, oe + i * 3 + 1, none⟩) hbe).trans e1
      have f2 := (HB.out.cell (p := ⟨be, oe + i * 3 + 2, none⟩) hbe).trans e2
      have q1 := (HB.out.cell (p := ⟨b1, 0, none⟩) l1).trans H1.out
      have q2 := (HB.out.cell (p := ⟨b2, 0, none⟩) l2).trans H2.out
      have HQ1 := Lib.hid q1
      have HQ2 := Lib.hid q2
      clear e0 e1 e2 hx q1 q2
      go_wp2_with fail
      refine (of1_any x1 x2 x3 a b b1 b2 _ HQ1.out HQ2.out).mono ?_
      rintro e w3 ⟨rfl, hb3⟩
      have HB3 := Lib.hid (HB.out.trans (hb3.mono HB.out.size))
      clear hb3
      by_cases hof : x1 = a ∧ x2 = b
      · have hd : decide (x1 = a ∧ x2 = b) = true := by simpa using hof
        rw [hd]
        have HOF := Lib.hid hof
        clear hof hd
        go_wp2_with fail
        go_ret
        exact ⟨HB3.out, .inl ⟨i, _, rfl, HX.out, HOF.out, HA.out⟩⟩
      · have hd : decide (x1 = a ∧ x2 = b) = false := by simpa using hof
        rw [hd]
        have HOF := Lib.hid hof
        clear hof hd
        go_wp2_with fail
        go_roundw
        case rel => exact ⟨i + 1, by omega, by go_num, fun j y hj hy => by
          by_cases hji : j < i
          · exact HA.out j y hji hy
          · have : j = i := by omega
            subst this
            rw [HX.out] at hy
            obtain rfl := Option.some.inj hy
            exact HOF.out, HB3.out⟩
        case measure => simp [intOf]; omega
    · have g1 : ¬ (i : Int) < (n : Int) := by omega
      have hin : i = n := by omega
      subst hin
      go_wp2_with fail
      go_ret
      exact ⟨HB.out, .inr ⟨rfl, fun j y hy => HA.out j y (by have := (List.getElem?_eq_some_iff.1 hy).1; have := HN.out; omega) hy⟩⟩
set_option maxHeartbeats 2000000 in
theorem of_any (va : Value) (l : List Ent) (a b : Int) (w : World) (ha : RowsAt encE 3 w va l) :
    Calls Try.prog 18 #[va, .int .i64 a, .int .i64 b] w fun e w' => e = .returned (.int .i64 (ofL l a b)) ∧ Below w.heap.size w w' := by
  obtain ⟨w0, hw0⟩ : ∃ w0, w0 = (w.alloc (.cells #[.int .i64 a] 3)).alloc (.cells #[.int .i64 b] 3) := ⟨_, rfl⟩
  obtain ⟨b2, hb2⟩ : ∃ b2, b2 = w.heap.size + 1 := ⟨_, rfl⟩
  have hb0 : Below w.heap.size w w0 := by rw [hw0]; exact ((Below.refl _ w).alloc (Nat.le_refl _) _).alloc (by simp) _
  have c1 : w0.cell? ⟨w.heap.size, 0, none⟩ = some (.int .i64 a) := by rw [hw0]; exact ((Blk.new w #[.int .i64 a] 3).alloc _).cell 0
  have c2 : w0.cell? ⟨b2, 0, none⟩ = some (.int .i64 b) := by rw [hw0, hb2]; exact (Blk.new' (w.alloc (.cells #[.int .i64 a] 3)) #[.int .i64 b] 3 (by simp)).cell 0
  have HR0 := Lib.hid (ha.below hb0)
  have HB0 := Lib.hid hb0
  have HW0 := Lib.hid hw0
  have HB2 := Lib.hid hb2
  have C1 := Lib.hid c1
  have C2 := Lib.hid c2
  obtain ⟨ad, c, rfl, hc1, hc2, hs⟩ := ha
  obtain ⟨n, hn⟩ : ∃ n, n = l.length := ⟨_, rfl⟩
  rw [← hn] at hc1 hc2 HR0 ⊢
  have HN := Lib.hid hn
  have HS0 := Lib.hid (hs.below hb0)
  clear hb0 c1 c2 hw0 hb2 hs hn
  have hmf : ∀ (fn : Fn) (first cap : Array Value) (w : World), (Instr.makeFunc fn first cap).run Try.prog w = .ok (.func fn first cap) w := fun _ _ _ _ => rfl
  go_enter Try.func18, Try.ntmps18
  go_wp2_with fail
  try simp only [World.size_alloc]
  rw [← HB2.out, ← HW0.out]
  refine (index_any _ l a b w.heap.size b2 w0 HR0.out C1.out C2.out).mono ?_
  rintro e w1 ⟨hb1, hp⟩
  have HB1 := Lib.hid (HB0.out.trans (hb1.mono HB0.out.size))
  rcases hp with ⟨i, x, rfl, hx, hxo, hno⟩ | ⟨rfl, hno⟩
  · have hi : i < n := by have := (List.getElem?_eq_some_iff.1 hx).1; have := HN.out; omega
    have hofl : Hid (ofL l a b = x.2.2) := Lib.hid (ofL_step hx (fun j y hj hy => hno j y hj hy) hxo)
    obtain ⟨be, oe, rfl, hbe, e0, e1, e2⟩ := encE_cell HS0.out i x hx
    have f2 := (hb1.cell (p := ⟨be, oe + i * 3 + 2, none⟩) hbe).trans e2
    clear hx hxo hno hb1 e0 e1 e2
    go_wp2_with fail
    go_ret
    rw [hofl.out]
    exact ⟨rfl, HB1.out⟩
  · have hofl : Hid (ofL l a b = 0) := Lib.hid (ofL_none (fun j y hy => hno j y hy))
    clear hno hb1
    go_wp2_with fail
    go_ret
    rw [hofl.out]
    exact ⟨rfl, HB1.out⟩
set_option maxHeartbeats 2000000 in
theorem reOf_any (va : Value) (l : List Ent) (a b : Int) (w : World) (ha : RowsAt encE 3 w va l) :
    Calls Try.prog 19 #[va, .int .i64 a, .int .i64 b] w fun e w' => e = .returned (.int .i64 (ofL l a b)) ∧ w' = w := by
  obtain ⟨ad, c, rfl, hc1, hc2, hs⟩ := ha
  obtain ⟨n, hn⟩ : ∃ n, n = l.length := ⟨_, rfl⟩
  rw [← hn] at hc1 hc2 ⊢
  have HS := Lib.hid hs
  have HN := Lib.hid hn
  clear hs hn
  go_enter Try.func19, Try.ntmps19
  go_wp2_with fail
  go_loop [7] (fun y => ∃ (i : Nat), i ≤ n ∧ y = .int .i64 i ∧ (∀ (j : Nat) x, j < i → l[j]? = some x → ¬ isOf a b x)) (fun y => n - (intOf y).toNat)
  case atStart => exact ⟨0, Nat.zero_le _, rfl, fun j x hj => by omega⟩
  case round =>
    obtain ⟨i, hi, rfl, hA⟩ := hrel
    have HA := Lib.hid hA
    clear hA
    by_cases hlt : i < n
    · have g1 : (i : Int) < (n : Int) := by omega
      obtain ⟨x, hx⟩ : ∃ x, l[i]? = some x := ⟨l[i]'(by have := HN.out; omega), List.getElem?_eq_getElem _⟩
      obtain ⟨be, oe, rfl, hbe, e0, e1, e2⟩ := encE_cell HS.out i x hx
      have HX := Lib.hid hx
      obtain ⟨x1, x2, x3⟩ := x
      dsimp only at e0 e1 e2
      clear hx
      have hsame : ¬ (x1 = a ∧ x2 = b) → ∀ (j : Nat) y, j < i + 1 → l[j]? = some y → ¬ isOf a b y := fun hne j y hj hy => by
        by_cases hji : j < i
        · exact HA.out j y hji hy
        · have : j = i := by omega
          subst this
          rw [HX.out] at hy
          obtain rfl := Option.some.inj hy
          exact hne
      have HSAME := Lib.hid hsame
      clear hsame
      by_cases h1 : x1 = a
      · by_cases h2 : x2 = b
        · have hofl : Hid (ofL l a b = x3) := Lib.hid (ofL_step HX.out (fun j y hj hy => HA.out j y hj hy) ⟨h1, h2⟩)
          subst h1 h2
          go_wp2_with fail
          go_ret
          rw [hofl.out]
          exact ⟨rfl, rfl⟩
        · have hq := HSAME.out (fun h => h2 h.2)
          have HQ := Lib.hid hq
          clear hq
          subst h1
          go_wp2_with fail
          go_round
          case rel => exact ⟨i + 1, by omega, by go_num, HQ.out⟩
          case measure => simp [intOf]; omega
      · have hq := HSAME.out (fun h => h1 h.1)
        have HQ := Lib.hid hq
        clear hq
        go_wp2_with fail
        go_round
        case rel => exact ⟨i + 1, by omega, by go_num, HQ.out⟩
        case measure => simp [intOf]; omega
    · have g1 : ¬ (i : Int) < (n : Int) := by omega
      have hin : i = n := by omega
      subst hin
      have hofl : Hid (ofL l a b = 0) := Lib.hid (ofL_none (fun j y hy => HA.out j y (by have := (List.getElem?_eq_some_iff.1 hy).1; have := HN.out; omega) hy))
      go_wp2_with fail
      go_ret
      rw [hofl.out]
      exact ⟨rfl, rfl⟩
end Go.Proofs.Ytimiehnknehagaa
