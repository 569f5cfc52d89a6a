import Derived.Test.YtnplcjcbojjecaaDoorFrRead
import Derived.Test.YtnplcjcbojjecaaDoorRfRead
import Derived.Test.YtnplcjcbojjecaaDoorFrLaw
set_option linter.unusedSimpArgs false
set_option linter.unusedVariables false
namespace Go.Proofs.YtnplcjcbojjecaaDoor
open Go.RowKit
theorem secNum_lt (b : ByteArray) : secNum b < 4294967296 := by
  unfold secNum; split
  · exact numF_lt 4 b
  · decide
theorem frMake_strs (num : Nat) (s : ByteArray) (w : World) (hn : num < 4294967296) :
    Calls Tryd.prog 14 #[.int .u32 num, .string s] w fun e w' => ∃ v, e = .returned (.tuple #[v, .int .i64 (makeF num s).2]) ∧ Below w.heap.size w w' ∧ StrsAt w' v (makeF num s).1 := by
  by_cases h : num = 0 ∨ 60000 < s.size
  · refine (frMake_bad num s w h).mono ?_
    rintro e w' ⟨rfl, hw⟩
    have hw := hw.symm
    subst hw
    refine ⟨_, rfl, Below.refl _ _, ?_⟩
    have : (makeF num s).1 = [] := by unfold makeF; rcases h with h | h; rw [if_pos h]; by_cases h0 : num = 0; rw [if_pos h0]; rw [if_neg h0, if_pos h]
    rw [this]; exact StrsAt.nil _
  · have h1 : ¬ num = 0 := fun h' => h (.inl h')
    have h2 : ¬ 60000 < s.size := fun h' => h (.inr h')
    refine (frMake_any num s w (by omega) hn (by omega)).mono ?_
    rintro e w' ⟨v, rfl, hb, ho⟩
    have hm : makeF num s = (secsF num s, 0) := by unfold makeF; rw [if_neg h1, if_neg h2]
    have hle := sizeN_le (k := s.size) (by omega)
    refine ⟨v, by rw [hm], hb, ?_⟩
    rw [hm]; exact StrsAt.own ho (by rw [secsF_len]) (by omega)
theorem rfMake_strs (num : Nat) (s : ByteArray) (w : World) (hn : num < 4294967296) :
    Calls Tryd.prog 15 #[.int .u32 num, .string s] w fun e w' => ∃ v, e = .returned (.tuple #[v, .int .i64 (makeF num s).2]) ∧ Below w.heap.size w w' ∧ StrsAt w' v (makeF num s).1 := by
  by_cases h : num = 0 ∨ 60000 < s.size
  · refine (rfMake_bad num s w h).mono ?_
    rintro e w' ⟨rfl, hw⟩
    have hw := hw.symm
    subst hw
    refine ⟨_, rfl, Below.refl _ _, ?_⟩
    have : (makeF num s).1 = [] := by unfold makeF; rcases h with h | h; rw [if_pos h]; by_cases h0 : num = 0; rw [if_pos h0]; rw [if_neg h0, if_pos h]
    rw [this]; exact StrsAt.nil _
  · have h1 : ¬ num = 0 := fun h' => h (.inl h')
    have h2 : ¬ 60000 < s.size := fun h' => h (.inr h')
    refine (rfMake_any num s w (by omega) hn (by omega)).mono ?_
    rintro e w' ⟨v, rfl, hb, ho⟩
    have hm : makeF num s = (secsF num s, 0) := by unfold makeF; rw [if_neg h1, if_neg h2]
    have hle := sizeN_le (k := s.size) (by omega)
    refine ⟨v, by rw [hm], hb, ?_⟩
    rw [hm]; exact StrsAt.own ho (by rw [secsF_len]) (by omega)
theorem frRead_strs (v : Value) (l : List ByteArray) (num : Nat) (hn : num < 4294967296) (hl2 : l.length ≤ 60000) (hsz : ∀ x ∈ l, x.size ≤ 100000) (w : World) (h : StrsAt w v l) :
    Calls Tryd.prog 20 #[v, .int .u32 num] w fun e w' => e = got3 (readF l num) ∧ Below w.heap.size w w' := by
  by_cases h0 : num = 0
  · have : readF l num = none3 := by unfold readF; rw [if_pos (.inl h0)]
    rw [this]; subst h0
    exact (frRead_zero v w).mono fun e w' h => ⟨h.1, by rw [h.2]; exact Below.refl _ _⟩
  obtain ⟨a, cap, rfl, h2, _, h4⟩ := h
  by_cases hl : l = []
  · subst hl
    have : readF [] num = none3 := by unfold readF; rw [if_pos (.inr (.inl rfl))]
    rw [this]
    exact (frRead_none _ ⟨_, _, rfl⟩ num w).mono fun e w' h => ⟨h.1, by rw [h.2]; exact Below.refl _ _⟩
  · obtain ⟨b, o, rfl, h3, h4⟩ := h4 (List.length_pos_iff.2 hl)
    exact frRead_some l (List.length_pos_iff.2 hl) hl2 hsz b o cap num (by omega) hn h2 w h3 h4
theorem rfRead_zero (a : Option Addr) (n c : Nat) (hn : 0 < n) (w : World) : Calls Tryd.prog 21 #[.slice a n c, .int .u32 0] w fun e w' => e = gotS none3 ∧ Below w.heap.size w w' := by
  have hlz : ((n : Int) == 0) = false := by simpa using (by omega : ¬ ((n : Int) = 0))
  go_enter Tryd.func21, Tryd.ntmps21
  go_wp2
  exact gotS_ret rfl rfl (Blk.new _ _ _) ⟨rfl, (Below.refl _ _).alloc (Nat.le_refl _) _⟩
theorem rfRead_strs (v : Value) (l : List ByteArray) (num : Nat) (hn : num < 4294967296) (hl2 : l.length ≤ 60000) (hsz : ∀ x ∈ l, x.size ≤ 100000) (w : World) (h : StrsAt w v l) :
    Calls Tryd.prog 21 #[v, .int .u32 num] w fun e w' => e = gotS (readF l num) ∧ Below w.heap.size w w' := by
  obtain ⟨a, cap, rfl, h2, _, h4⟩ := h
  by_cases hl : l = []
  · subst hl
    have : readF [] num = none3 := by unfold readF; rw [if_pos (.inr (.inl rfl))]
    rw [this]
    exact rfRead_none _ ⟨_, _, rfl⟩ num w
  · obtain ⟨b, o, rfl, h3, h4⟩ := h4 (List.length_pos_iff.2 hl)
    by_cases h0 : num = 0
    · have : readF l num = none3 := by unfold readF; rw [if_pos (.inl h0)]
      rw [this]; subst h0
      exact rfRead_zero _ _ _ (List.length_pos_iff.2 hl) w
    · exact rfRead_some l (List.length_pos_iff.2 hl) hl2 hsz b o cap num (by omega) hn h2 w h3 h4
def abS : ByteArray := ⟨#[97, 98]⟩
theorem makeF_some (num : Nat) (s : ByteArray) (h0 : 0 < num) (hs : s.size ≤ 60000) : makeF num s = (secsF num s, 0) := by unfold makeF; rw [if_neg (by omega), if_neg (by omega)]
set_option maxRecDepth 100000 in
set_option maxHeartbeats 1000000 in
theorem wakes10_any (w : World) : Calls Tryd.prog 13 #[] w fun e w' => e = .returned (.bool true) ∧ Below w.heap.size w w' := by
  have habs : abS.size ≤ 60000 := by decide
  have hm : makeF 5 abS = (secsF 5 abS, 0) := makeF_some 5 abS (by decide) habs
  have hlen : (secsF 5 abS).length = 1 := by rw [secsF_len]; rfl
  obtain ⟨x, hx⟩ : ∃ x, secsF 5 abS = [x] := List.length_eq_one_iff.1 hlen
  have hg := secsF_get 5 abS 0 (by decide)
  rw [hx] at hg
  have hxe : x = secF 5 0 (sizeN abS.size) (allF abS) := by simpa using hg
  have hxs : x.size = 256 := by rw [hxe]; exact secF_size 5 0 _ _ (allF_size abS) (by decide)
  have hxn : secNum x = 5 := by rw [hxe]; exact secF_num 5 0 _ _ (by decide) (allF_size abS) (by decide)
  have h5 := readF_make 5 abS [] (by decide) (by decide) habs
  rw [List.append_nil, hx] at h5
  have h6 : readF [x] 6 = none3 := readF_other [x] 6 (by show secNum x ≠ 6; rw [hxn]; decide)
  have hsn : sizeN abS.size = 1 := rfl
  rw [hsn] at h5
  clear hg hxe hlen hsn
  go_enter Tryd.func13, Tryd.ntmps13
  have hmake := frMake_strs 5 abS
  rw [hm, hx] at hmake
  clear hm hx habs
  have HM := Lib.hid hmake
  have H5 := Lib.hid h5
  have H6 := Lib.hid h6
  have HXN := Lib.hid hxn
  have HXS := Lib.hid hxs
  clear hmake h5 h6 hxn hxs
  go_wp2_with fail
  refine (HM.out w (by decide)).mono ?_
  rintro e w1 ⟨v, rfl, hb1, hv⟩
  have HV := Lib.hid hv
  have HB := Lib.hid hb1
  clear hv hb1 HM
  go_wp2_with fail
  refine (frRead_strs v [x] 5 (by decide) (by simp) (by simp [HXS.out]) w1 HV.out).mono ?_
  rintro e w2 ⟨rfl, hb2⟩
  rw [H5.out]
  have HV2 := Lib.hid (HV.out.below hb2)
  have HB2 := Lib.hid (HB.out.trans (hb2.mono HB.out.size))
  clear hb2 H5 HV HB
  dsimp only [got3]
  go_wp2_with fail
  refine (frRead_strs v [x] 6 (by decide) (by simp) (by simp [HXS.out]) w2 HV2.out).mono ?_
  rintro e w3 ⟨rfl, hb3⟩
  rw [H6.out]
  obtain ⟨a, c, rfl, _, hc⟩ := (HV2.out.below hb3).out
  obtain ⟨b, o, rfl, hlt, hc⟩ := hc (by simp)
  have c0 : w3.cell? ⟨b, o, none⟩ = some (.string x) := hc 0 x rfl
  have HB3 := Lib.hid (HB2.out.trans (hb3.mono HB2.out.size))
  clear hb3 H6 HV2 HB2 hc
  have hxz : (x.size : Int) = 256 := by have := HXS.out; omega
  have hab : abS.toList = [97, 98] := by rw [Go.ByteArray.toList_eq]; rfl
  dsimp only [got3]
  go_wp2_with fail
  refine (frNum_any x (by rw [HXS.out]; simp [maxLen]) _).mono ?_
  rintro e w4 ⟨rfl, hb4⟩
  rw [HXN.out]
  have HB4 := Lib.hid (HB3.out.trans (hb4.mono HB3.out.size))
  clear hb4 HB3
  go_wp2_with fail
  refine (frSize_any 236 _).mono ?_
  rintro e w5 ⟨rfl, hw5⟩
  have hw5 := hw5.symm
  subst hw5
  rw [show sizeF 236 = 1 from rfl]
  go_wp2_with fail
  refine (frSize_any 237 _).mono ?_
  rintro e w5 ⟨rfl, hw5⟩
  have hw5 := hw5.symm
  subst hw5
  rw [show sizeF 237 = 2 from rfl]
  go_wp2_with fail
  go_ret
  exact ⟨rfl, HB4.out⟩
end Go.Proofs.YtnplcjcbojjecaaDoor
