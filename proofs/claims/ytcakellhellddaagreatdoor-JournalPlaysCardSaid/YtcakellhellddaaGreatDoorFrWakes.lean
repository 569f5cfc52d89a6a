import Derived.Test.YtcakellhellddaaGreatDoorFrStrs
import Derived.Test.YtcakellhellddaaGreatDoorRfRead
set_option linter.unusedSimpArgs false
set_option linter.unusedVariables false
namespace Go.Proofs.YtcakellhellddaaGreatDoor
open Go.RowKit
theorem rfMake_strs (num : Nat) (s : ByteArray) (w : World) (hn : num < 4294967296) :
    Calls Tryz.prog 62 #[.int .u32 num, .string s] w fun e w' => ∃ v, e = .returned (.tuple #[v, .int .i64 (makeF num s).2]) ∧ Below w.heap.size w w' ∧ StrsAt w' v (makeF num s).1 := by
  by_cases h : num = 0 ∨ 60000 < s.size
  · refine (rfMake_bad num s w h).mono ?_
    rintro e w' ⟨rfl, hw⟩
    have hw := hw.symm
    subst hw
    refine ⟨_, rfl, Below.refl _ _, ?_⟩
    have : (makeF num s).1 = [] := by unfold makeF; rcases h with h | h; rw [if_pos h]; by_cases h0 : num = 0; rw [if_pos h0]; rw [if_neg h0, if_pos h]
    rw [this]; exact StrsAt.nil _
  · have h1 : ¬ num = 0 := fun h' => h (.inl h')
    have h2 : ¬ 60000 < s.size := fun h' => h (.inr h')
    refine (rfMake_any num s w (by omega) hn (by omega)).mono ?_
    rintro e w' ⟨v, rfl, hb, ho⟩
    have hm : makeF num s = (secsF num s, 0) := by unfold makeF; rw [if_neg h1, if_neg h2]
    have hle := sizeN_le (k := s.size) (by omega)
    refine ⟨v, by rw [hm], hb, ?_⟩
    rw [hm]; exact StrsAt.own ho (by rw [secsF_len]) (by omega)
theorem rfRead_zero (a : Option Addr) (n c : Nat) (hn : 0 < n) (w : World) : Calls Tryz.prog 52 #[.slice a n c, .int .u32 0] w fun e w' => e = gotS none3 ∧ Below w.heap.size w w' := by
  have hlz : ((n : Int) == 0) = false := by simpa using (by omega : ¬ ((n : Int) = 0))
  go_enter Tryz.func52, Tryz.ntmps52
  go_wp2
  exact gotS_ret rfl rfl (Blk.new _ _ _) ⟨rfl, (Below.refl _ _).alloc (Nat.le_refl _) _⟩
theorem rfRead_strs (v : Value) (l : List ByteArray) (num : Nat) (hn : num < 4294967296) (hl2 : l.length ≤ 60000) (hsz : ∀ x ∈ l, x.size ≤ 100000) (w : World) (h : StrsAt w v l) :
    Calls Tryz.prog 52 #[v, .int .u32 num] w fun e w' => e = gotS (readF l num) ∧ Below w.heap.size w w' := by
  obtain ⟨a, cap, rfl, h2, _, h4⟩ := h
  by_cases hl : l = []
  · subst hl
    have : readF [] num = none3 := by unfold readF; rw [if_pos (.inr (.inl rfl))]
    rw [this]
    exact rfRead_none _ ⟨_, _, rfl⟩ num w
  · obtain ⟨b, o, rfl, h3, h4⟩ := h4 (List.length_pos_iff.2 hl)
    by_cases h0 : num = 0
    · have : readF l num = none3 := by unfold readF; rw [if_pos (.inl h0)]
      rw [this]; subst h0
      exact rfRead_zero _ _ _ (List.length_pos_iff.2 hl) w
    · exact rfRead_some l (List.length_pos_iff.2 hl) hl2 hsz b o cap num (by omega) hn h2 w h3 h4
def abS : ByteArray := ⟨#[97, 98]⟩
end Go.Proofs.YtcakellhellddaaGreatDoor
