import Derived.Test.YtnplcjcbojjecaaDoorFrBytes
import Derived.Lib.EndianMore
import Derived.Lib.EndianBits
set_option linter.unusedSimpArgs false
set_option linter.unusedVariables false
namespace Go.Proofs.YtnplcjcbojjecaaDoor
open Go.RowKit
/-- An opener in block ob that has s left. -/
def OpAt (w : World) (ob : Nat) (s : ByteArray) : Prop := Blk w ob #[.string s, .bool false] 116
theorem take_any (ob n : Nat) (s : ByteArray) (w : World) (h : OpAt w ob s) (hn : n ≤ s.size) (hs : s.size ≤ maxLen) :
    Calls Tryd.prog 99 #[.pointer (some ⟨ob, 0, none⟩), .int .i64 n] w fun e w' => e = .returned (.string (s.extract 0 n)) ∧ w' = w.setCell ⟨ob, 0, none⟩ (.string (s.extract n s.size)) := by
  have c0 : w.cell? ⟨ob, 0, none⟩ = some (.string s) := Blk.cell h 0
  have f0 := Blk.free h 0
  unfold maxLen at hs
  clear h
  go_enter Tryd.func99, Tryd.ntmps99
  go_wp2
  go_ret
  exact ⟨rfl, rfl⟩
theorem leNat_lt : ∀ l : List UInt8, Lib.leNat l < 256 ^ l.length
  | [] => by simp [Lib.leNat]
  | b :: l => by
    have h1 := leNat_lt l
    have h2 := b.toNat_lt
    rw [Lib.leNat, List.length_cons, Nat.pow_succ]
    omega
theorem or_next (a c i : Nat) (hi : i < 4) (ha : a < 256 ^ i) (hc : c < 256) : bits .or .u64 (a : Int) (IntKind.u64.wrap ((c : Int) * 2 ^ (8 * i))) = ((a + 256 ^ i * c : Nat) : Int) := by
  have h1 : (256 : Nat) ^ i = 2 ^ (8 * i) := by rw [Nat.pow_mul]
  have h2 : (2 : Nat) ^ (8 * i) ≤ 2 ^ 24 := Nat.pow_le_pow_right (by decide) (by omega)
  have h3 : c * 2 ^ (8 * i) < 2 ^ 33 := by
    have : c * 2 ^ (8 * i) ≤ 255 * 2 ^ 24 := Nat.mul_le_mul (by omega) h2
    omega
  have e1 : (c : Int) * 2 ^ (8 * i) = ((c * 2 ^ (8 * i) : Nat) : Int) := by simp
  have e2 : IntKind.u64.wrap ((c : Int) * 2 ^ (8 * i)) = ((c * 2 ^ (8 * i) : Nat) : Int) := by rw [e1, IntKind.wrap_u64]; omega
  rw [e2, Go.bits_join_low .u64 64 (by decide) (fun n h0 h1 => by rw [IntKind.wrap_u64]; omega) (8 * i) (a : Int) _ (by omega) ?_ ?_ (by omega) ?_ ?_]
  · rw [h1, Nat.mul_comm (2 ^ (8 * i)) c]; simp
  · have : a < 2 ^ (8 * i) := h1 ▸ ha
    exact_mod_cast this
  · have : a < 2 ^ 24 := Nat.lt_of_lt_of_le (h1 ▸ ha) h2
    have h4 : (a : Int) < 2 ^ 24 := by exact_mod_cast this
    omega
  · have : (c * 2 ^ (8 * i)) % 2 ^ (8 * i) = 0 := Nat.mul_mod_left _ _
    exact_mod_cast this
  · have h4 : ((c * 2 ^ (8 * i) : Nat) : Int) < 2 ^ 33 := by exact_mod_cast h3
    omega
theorem leNat_take (l : List UInt8) (i : Nat) (hi : i < l.length) : Lib.leNat (l.take (i + 1)) = Lib.leNat (l.take i) + 256 ^ i * l[i].toNat := by
  rw [List.take_succ_eq_append_getElem hi, Lib.leNat_append, List.length_take, Nat.min_eq_left (Nat.le_of_lt hi)]
  simp [Lib.leNat]
set_option maxHeartbeats 1000000 in
theorem onum_any (ob n : Nat) (hn : n = 2 ∨ n = 4) (s : ByteArray) (w : World) (h : OpAt w ob s) (hs : n ≤ s.size) (hs2 : s.size ≤ maxLen) :
    Calls Tryd.prog 75 #[.pointer (some ⟨ob, 0, none⟩), .int .i64 n] w fun e w' => e = .returned (.int .u64 (Lib.leNat (s.data.toList.take n))) ∧ Only (· = ob) w w' := by
  have H := Lib.hid h
  obtain ⟨t, ht⟩ : ∃ t, t = s.extract 0 n := ⟨_, rfl⟩
  have htl : t.data.toList = s.data.toList.take n := by rw [ht]; simp
  have htz : t.size = n := by rw [ht, ByteArray.size_extract]; omega
  rw [← htl]
  have HT := Lib.hid ht
  have HL := Lib.hid (show t.data.toList.length = n by simpa using htz)
  clear h ht htl
  go_enter Tryd.func75, Tryd.ntmps75
  go_wp2_with (go_at_call 98; refine (pkSize_any n (by omega) _).mono ?_; rintro e w1 ⟨rfl, hw1⟩; have hw1 := hw1.symm; subst hw1)
  refine (take_any ob n s _ H.out hs hs2).mono ?_
  rintro e w1 ⟨rfl, hw1⟩
  have HO1 : Hid (Only (· = ob) w w1) := Lib.hid (by rw [hw1]; exact (Only.refl (· = ob) w).setCell (p := ⟨ob, 0, none⟩) (fun _ => rfl) _)
  rw [← HT.out]
  clear hw1
  have htz' : t.size = n := htz
  clear htz
  go_wp2_with (first | ((with_reducible refine at_ofStr str_up sl_u8p u8_up t ?_ ?_); exact rfl))
  intro w2 cap hb2 hz2 hr2
  have HR2 := Lib.hid hr2
  have HO2 : Hid (Only (· = ob) w w2) := Lib.hid (HO1.out.trans (Only.of_below hb2))
  clear hr2 hb2 hz2
  rw [htz']
  go_wp2_with fail
  obtain ⟨l, hl⟩ : ∃ l, l = t.data.toList := ⟨_, rfl⟩
  have HLL := HL.out
  have HR3 := HR2.out
  rw [← hl] at HLL HR3
  have HLe := Lib.hid hl
  have HR := Lib.hid HR3
  have HN := Lib.hid HLL
  clear HR3 HLL hl HR2 HL HT
  have hnb : Hid (n ≤ 4) := Lib.hid (by omega)
  go_loopw [5, 18] (fun y x wr => ∃ i : Nat, i ≤ n ∧ x = .int .i64 i ∧ y = .int .u64 (Lib.leNat (l.take i)) ∧ wr = w2) (fun _ x _ => n - (intOf x).toNat)
  case atStart => exact ⟨0, Nat.zero_le _, rfl, rfl, rfl⟩
  case round =>
    obtain ⟨i, hi, rfl, rfl, rfl⟩ := hrel
    by_cases hlt : i < n
    · have hil : i < l.length := by rw [HN.out]; exact hlt
      have ci := (HR.out i hil).1
      obtain ⟨c, hc⟩ : ∃ c, c = l[i] := ⟨_, rfl⟩
      rw [← hc] at ci
      have HCi := Lib.hid hc
      clear hc
      have hi4 : i < 4 := by have := hnb.out; omega
      have hcl := c.toNat_lt
      have hnx : Hid (bits .or .u64 (Lib.leNat (l.take i) : Int) (IntKind.u64.wrap ((c.toNat : Int) * 2 ^ (8 * i))) = (Lib.leNat (l.take (i + 1)) : Int)) := by
        refine Lib.hid ?_
        have h1 := leNat_lt (l.take i)
        rw [List.length_take, Nat.min_eq_left (Nat.le_of_lt hil)] at h1
        rw [or_next _ _ i hi4 h1 hcl, leNat_take l i hil, HCi.out]
      generalize Lib.leNat (l.take i) = a at *
      go_wp2_with fail
      refine ⟨⟨i + 1, by omega, by go_num, by rw [hnx.out], trivial⟩, ?_⟩
      simp [intOf]; omega
    · have hin : i = n := by omega
      subst hin
      have hta : Hid (l.take i = t.data.toList) := Lib.hid (by rw [← HLe.out, ← HN.out, List.take_length])
      rw [hta.out]
      go_wp2_with fail
      go_ret
      exact ⟨rfl, HO2.out⟩
end Go.Proofs.YtnplcjcbojjecaaDoor
