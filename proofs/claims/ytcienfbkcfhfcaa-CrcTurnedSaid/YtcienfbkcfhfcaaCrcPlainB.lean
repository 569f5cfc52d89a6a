import Derived.Test.YtcienfbkcfhfcaaCrcPlain
set_option linter.unusedSimpArgs false
set_option linter.unusedVariables false
namespace Go.Proofs.Ytcienfbkcfhfcaa
theorem goK_add (c v : W32) (a : Nat) : ∀ b, goK c v (a + b) = goK (goK c v a) (v >>> a) b
  | 0 => rfl
  | b + 1 => by
    rw [← Nat.add_assoc, goK, goK, goK_add c v a b, BitVec.shiftRight_add]
theorem low_low (v : W32) (k : Nat) (hk : k ≤ 32) : low (low v k) k = low v k := by
  apply BitVec.eq_of_getLsbD_eq
  intro j hj
  rw [getLsbD_low _ _ _ hk, getLsbD_low _ _ _ hk]
  cases decide (j < k) <;> simp
theorem goK_low (c v : W32) (k : Nat) (hk : k ≤ 32) : goK c (low v k) k = goK c v k := by
  rw [goK_run _ _ k hk, goK_run _ _ k hk, low_low v k hk]
/-- The lowest byte of a word. -/
def lowB (v : W32) : UInt8 := UInt8.ofNat v.toNat
theorem lowB_low (v : W32) : BitVec.ofNat 32 (lowB v).toNat = low v 8 := by
  apply BitVec.eq_of_toNat_eq
  unfold low lowB
  rw [BitVec.toNat_and, BitVec.toNat_ofNat, BitVec.toNat_ofNat, UInt8.toNat_ofNat']
  rw [show (2 ^ 8 - 1) % 2 ^ 32 = 2 ^ 8 - 1 by decide, Nat.and_two_pow_sub_one_eq_mod]
  omega
theorem inB_low (c v : W32) : inB c (lowB v) = goK c v 8 := by
  rw [← goK_byte, lowB_low, goK_low c v 8 (by decide)]
/-- A word's four bytes, the lowest first. -/
def le4 (v : W32) : List UInt8 := [lowB v, lowB (v >>> 8), lowB (v >>> 16), lowB (v >>> 24)]
theorem run_le4 (c v : W32) : runB c (le4 v) = stpN 32 (c ^^^ v) := by
  have h : runB c (le4 v) = goK c v (8 + 8 + 8 + 8) := by
    rw [goK_add c v (8 + 8 + 8) 8, goK_add c v (8 + 8) 8, goK_add c v 8 8, ← inB_low, ← inB_low, ← inB_low, ← inB_low]; rfl
  rw [h, show 8 + 8 + 8 + 8 = 32 from rfl, goK_run c v 32 (Nat.le_refl _), low_all]
theorem own_sum (l : List UInt8) : againF 0#32 (l ++ le4 (againF 0#32 l)) = 558161692#32 := by
  unfold againF
  rw [runB_app, run_le4]
  generalize runB (~~~0#32) l = x
  rw [show x ^^^ ~~~x = BitVec.allOnes 32 by rw [← BitVec.allOnes_xor, show x ^^^ (BitVec.allOnes 32 ^^^ x) = BitVec.allOnes 32 ^^^ (x ^^^ x) by ac_rfl]; simp]
  decide +kernel
/-! One bit turned. -/
theorem stp_inj {a : W32} (h : stp a = 0#32) : a = 0#32 := by
  rw [stp_eq] at h
  by_cases hb : a.getLsbD 0 = true
  · rw [if_pos hb] at h
    have h31 := congrArg (fun x : W32 => x.getLsbD 31) h
    simp only [BitVec.getLsbD_xor, BitVec.getLsbD_ushiftRight] at h31
    have : a.getLsbD (1 + 31) = false := BitVec.getLsbD_of_ge a _ (by omega)
    rw [this] at h31
    exact absurd h31 (by decide)
  · rw [if_neg hb] at h
    apply BitVec.eq_of_getLsbD_eq
    intro i hi
    cases i with
    | zero => simpa using hb
    | succ i =>
      have := congrArg (fun x : W32 => x.getLsbD i) h
      simp only [BitVec.getLsbD_ushiftRight] at this
      rw [Nat.add_comm] at this
      simpa using this
theorem stpN_inj (n : Nat) {a : W32} (h : stpN n a = 0#32) : a = 0#32 := by
  induction n with
  | zero => exact h
  | succ n ih => exact ih (stp_inj h)
theorem byte_xor (x : UInt8) (b : Nat) (hb : b < 8) : BitVec.ofNat 32 (x ^^^ (UInt8.ofNat (2 ^ b))).toNat = BitVec.ofNat 32 x.toNat ^^^ (1#32 <<< b) := by
  have hx := x.toNat_lt
  have h2 : 2 ^ b < 256 := by
    have := Nat.pow_lt_pow_right (a := 2) (by decide) hb
    simpa using this
  apply BitVec.eq_of_toNat_eq
  rw [BitVec.toNat_xor, BitVec.toNat_ofNat, BitVec.toNat_ofNat, UInt8.toNat_xor, UInt8.toNat_ofNat', Nat.mod_eq_of_lt (a := 2 ^ b) (by omega), BitVec.toNat_shiftLeft, Nat.shiftLeft_eq]
  have hxor : x.toNat ^^^ 2 ^ b < 2 ^ 8 := Nat.xor_lt_two_pow (by omega) (by omega)
  rw [Nat.mod_eq_of_lt (a := x.toNat ^^^ 2 ^ b) (by omega), Nat.mod_eq_of_lt (a := x.toNat) (by omega), Nat.mod_eq_of_lt]
  · simp
  · simp; omega
theorem inB_flip (c : W32) (x : UInt8) (b : Nat) (hb : b < 8) : inB c (x ^^^ UInt8.ofNat (2 ^ b)) = stpN (8 - b) 1#32 ^^^ inB c x := by
  unfold inB
  rw [byte_xor x b hb, ← BitVec.xor_assoc, stpN_xor, BitVec.xor_comm]
  congr 1
  have h := stpN_add (8 - b) b (1#32 <<< b)
  rw [show 8 - b + b = 8 by omega, stpN_bit b (by omega)] at h
  exact h
theorem run_flip (r : W32) (l : List UInt8) (q b : Nat) (hq : q < l.length) (hb : b < 8) :
    runB r (l.set q (l.getD q 0 ^^^ UInt8.ofNat (2 ^ b))) = runB r l ^^^ stpN (8 * l.length - (8 * q + b)) 1#32 := by
  have e1 : l = l.take q ++ l.getD q 0 :: l.drop (q + 1) := by
    rw [List.getD_eq_getElem?_getD, List.getElem?_eq_getElem hq, Option.getD_some]
    rw [← List.drop_eq_getElem_cons hq, List.take_append_drop]
  have e2 : l.set q (l.getD q 0 ^^^ UInt8.ofNat (2 ^ b)) = l.take q ++ (l.getD q 0 ^^^ UInt8.ofNat (2 ^ b)) :: l.drop (q + 1) := by
    rw [List.set_eq_take_append_cons_drop, if_pos hq]
  rw [e2]
  conv => rhs; rw [show runB r l = runB r (l.take q ++ l.getD q 0 :: l.drop (q + 1)) by rw [← e1]]
  rw [runB_app, runB_app, runB_cons, runB_cons, inB_flip _ _ b hb, runB_xor, BitVec.xor_comm, ← stpN_add]
  congr 2
  rw [List.length_drop]
  omega
end Go.Proofs.Ytcienfbkcfhfcaa
