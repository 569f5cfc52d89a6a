import Derived.Test.YtimiehnknehagaaRefDiff
set_option linter.unusedSimpArgs false
set_option linter.unusedVariables false
namespace Go.Proofs.Ytimiehnknehagaa
open Go.RowKit
/-! The reference's Same. -/
set_option maxHeartbeats 2000000 in
theorem refSame_any (vl vs : Value) (l : List Ent) (s : StateM) (w : World) (hl : RowsAt encE 3 w vl l) (hs : StAt w vs s) (hn : s.loans.length ≤ 100) (hi : ∀ x ∈ s.loans, in64L x) :
    Calls Try.prog 15 #[vl, vs] w (SamePost l s.loans w) := by
  obtain ⟨vla, vba, rfl, hla, hba⟩ := hs.cells
  obtain ⟨ada, ca, rfl, hla1, hla2, hlas⟩ := hla
  obtain ⟨vsa, hva, ⟨adba, cba, rfl, q1, q2, q3⟩, q4⟩ := hba
  obtain ⟨ma, hma⟩ : ∃ n, n = vsa.length := ⟨_, rfl⟩
  obtain ⟨na, hna⟩ : ∃ n, n = s.loans.length := ⟨_, rfl⟩
  obtain ⟨w0, hw0⟩ : ∃ w0, w0 = w.alloc (.cells (stCells s (.slice ada na ca) (.slice adba ma cba)) 27) := ⟨_, rfl⟩
  have hb0 : Below w.heap.size w w0 := by rw [hw0]; exact (Below.refl _ w).alloc (Nat.le_refl _) _
  rw [← hma, ← hna] at hs ⊢
  have HS := Lib.hid (hs.below hb0)
  have HL := Lib.hid (hl.below hb0)
  have HB := Lib.hid hb0
  have HI := Lib.hid hi
  unfold stCells at hw0
  have HW := Lib.hid hw0
  clear hs hl hb0 hw0 hla1 hla2 hlas hva q1 q2 q3 q4 hma hna hi
  unfold stCells
  go_enter Try.func15, Try.ntmps15
  go_wp2_with fail
  rw [← HW.out]
  refine (refDiff_any (.agg (stCells zeroS (.slice none 0 0) (.slice none 0 0))) (.agg (stCells s (.slice ada na ca) (.slice adba ma cba))) zeroS s (by decide) hn w0 (zeroS_at w0) HS.out (fun x hx => by cases hx) HI.out).mono ?_
  rintro e w1 ⟨v, es, rfl, ht, hr, hel, hb1⟩
  have HT := Lib.hid ht
  have HR := Lib.hid hr
  have HL1 := Lib.hid (HL.out.below hb1)
  have HB1 := Lib.hid (HB.out.trans (hb1.mono HB.out.size))
  clear ht hr hb1 hel
  go_wp2_with fail
  refine (alike_any vl v l es w1 HL1.out HR.out).mono ?_
  rintro e w2 ⟨rfl, hb2⟩
  have HB2 := Lib.hid (HB1.out.trans (hb2.mono HB1.out.size))
  clear hb2
  go_wp2_with fail
  go_ret
  exact ⟨es, HT.out, rfl, HB2.out⟩
end Go.Proofs.Ytimiehnknehagaa
