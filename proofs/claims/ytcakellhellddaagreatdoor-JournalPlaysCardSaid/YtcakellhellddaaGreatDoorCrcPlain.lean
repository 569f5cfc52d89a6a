import Derived.Test.YtcakellhellddaaGreatDoorBv
import Derived.Test.YtcakellhellddaaGreatDoorProg
import Derived.WalkKit
import Derived.Outline
import Derived.LoopTactic
import Derived.Laws.Shifts
import Derived.KernelRfl
import Derived.WalkLawsBesides
import Derived.Lib.Hide
set_option linter.unusedSimpArgs false
set_option linter.unusedVariables false
namespace Go.Proofs.YtcakellhellddaaGreatDoor
/-! The layer's sums on words: one step, many steps, a byte, a text; matrices as lists of words. -/
def stp (r : W32) : W32 := if (r &&& 1#32) = 1#32 then (r >>> 1) ^^^ poly else r >>> 1
def stpN : Nat → W32 → W32
  | 0, r => r
  | n+1, r => stp (stpN n r)
def inB (r : W32) (b : UInt8) : W32 := stpN 8 (r ^^^ BitVec.ofNat 32 b.toNat)
def runB (r : W32) (l : List UInt8) : W32 := l.foldl inB r
def againF (c : W32) (l : List UInt8) : W32 := ~~~ (runB (~~~c) l)
def mAt (m : List W32) (i : Nat) : W32 := m.getD i 0
def ofN (m : List W32) (x : W32) : Nat → W32
  | 0 => 0
  | i + 1 => if (x >>> i) &&& 1#32 = 1#32 then ofN m x i ^^^ mAt m i else ofN m x i
def ofF (m : List W32) (x : W32) : W32 := ofN m x 32
def z32 : List W32 := List.replicate 32 0#32
def oneN : Nat → List W32
  | 0 => z32.set 0 poly
  | i + 1 => if i = 0 then oneN i else (oneN i).set i (1#32 <<< (i - 1))
/-- The matrix done twice: its first n words. -/
def twN (m : List W32) : Nat → List W32
  | 0 => z32
  | n + 1 => (twN m n).set n (ofF m (mAt m n))
def twF (m : List W32) : List W32 := twN m 32

theorem stp_odd {r : W32} (h : r &&& 1#32 = 1#32) : stp r = (r >>> 1) ^^^ poly := if_pos h
theorem stp_even {r : W32} (h : r &&& 1#32 ≠ 1#32) : stp r = r >>> 1 := if_neg h
theorem take_snoc (s : ByteArray) (k : Nat) (h : k < s.size) : s.data.toList.take (k + 1) = s.data.toList.take k ++ [s[k]] := by
  rw [List.take_succ_eq_append_getElem (by simpa using h)]; rfl
theorem ofN_one {m : List W32} {x : W32} {i : Nat} (h : (x >>> i) &&& 1#32 = 1#32) : ofN m x (i + 1) = ofN m x i ^^^ mAt m i := if_pos h
theorem ofN_nil {m : List W32} {x : W32} {i : Nat} (h : (x >>> i) &&& 1#32 ≠ 1#32) : ofN m x (i + 1) = ofN m x i := if_neg h
theorem z32_len : z32.length = 32 := by simp [z32]
theorem oneN_len : ∀ i, (oneN i).length = 32
  | 0 => by simp [oneN, z32]
  | i + 1 => by unfold oneN; split <;> simp [oneN_len i]
theorem oneN_succ {k : Nat} (h : 1 ≤ k) : oneN (k + 1) = (oneN k).set k (1#32 <<< (k - 1)) := by
  rw [oneN, if_neg (by omega)]
theorem twN_len (m : List W32) : ∀ n, (twN m n).length = 32
  | 0 => z32_len
  | n + 1 => by rw [twN, List.length_set, twN_len m n]
theorem twF_len (m : List W32) : (twF m).length = 32 := twN_len m 32

/-! The step is linear. -/
theorem bit0 (r : W32) : r &&& 1#32 = if r.getLsbD 0 then 1#32 else 0#32 := by
  apply BitVec.eq_of_getLsbD_eq
  intro i hi
  rw [BitVec.getLsbD_and]
  by_cases h : i = 0
  · subst h; cases r.getLsbD 0 <;> simp
  · have h1 : (1#32).getLsbD i = false := by simp [BitVec.getLsbD_one, h]
    rw [h1]
    cases r.getLsbD 0 <;> simp [h]
theorem stp_eq (r : W32) : stp r = if r.getLsbD 0 then (r >>> 1) ^^^ poly else r >>> 1 := by
  unfold stp; rw [bit0]; cases r.getLsbD 0 <;> simp
theorem stp_xor (a b : W32) : stp (a ^^^ b) = stp a ^^^ stp b := by
  simp only [stp_eq, BitVec.getLsbD_xor, BitVec.ushiftRight_xor_distrib]
  cases a.getLsbD 0 <;> cases b.getLsbD 0 <;> simp
  · ac_rfl
  · ac_rfl
  · rw [show a >>> 1 ^^^ poly ^^^ (b >>> 1 ^^^ poly) = a >>> 1 ^^^ b >>> 1 ^^^ (poly ^^^ poly) by ac_rfl]; simp
theorem stpN_xor (n : Nat) (a b : W32) : stpN n (a ^^^ b) = stpN n a ^^^ stpN n b := by
  induction n with
  | zero => rfl
  | succ n ih => rw [stpN, ih, stp_xor]; rfl
theorem stpN_add (m n : Nat) (r : W32) : stpN (m + n) r = stpN m (stpN n r) := by
  induction m with
  | zero => simp [stpN]
  | succ m ih => rw [Nat.succ_add, stpN, ih]; rfl
theorem stpN_zero (n : Nat) : stpN n 0#32 = 0#32 := by
  induction n with
  | zero => rfl
  | succ n ih => rw [stpN, ih]; decide
theorem inB_xor (r t : W32) (b : UInt8) : inB (r ^^^ t) b = stpN 8 r ^^^ inB t b := by
  unfold inB; rw [show r ^^^ t ^^^ BitVec.ofNat 32 b.toNat = r ^^^ (t ^^^ BitVec.ofNat 32 b.toNat) by ac_rfl, stpN_xor]
theorem runB_nil (r : W32) : runB r [] = r := rfl
theorem runB_cons (r : W32) (b : UInt8) (l : List UInt8) : runB r (b :: l) = runB (inB r b) l := rfl
theorem runB_app (r : W32) (l m : List UInt8) : runB r (l ++ m) = runB (runB r l) m := by unfold runB; rw [List.foldl_append]
theorem runB_xor (l : List UInt8) : ∀ (r t : W32), runB (r ^^^ t) l = stpN (8 * l.length) r ^^^ runB t l := by
  induction l with
  | nil => intro r t; rfl
  | cons b l ih =>
    intro r t
    rw [runB_cons, inB_xor, ih, runB_cons, ← stpN_add]
    congr 2
theorem runB_split (l : List UInt8) (r : W32) : runB r l = stpN (8 * l.length) r ^^^ runB 0#32 l := by
  have := runB_xor l r 0#32
  rwa [BitVec.xor_zero] at this

/-! A matrix and the linear map that it stands for. -/
def low (x : W32) (i : Nat) : W32 := x &&& BitVec.ofNat 32 (2 ^ i - 1)
theorem low_zero (x : W32) : low x 0 = 0#32 := by simp [low]
theorem low_all (x : W32) : low x 32 = x := by
  unfold low
  have : BitVec.ofNat 32 (2 ^ 32 - 1) = BitVec.allOnes 32 := by decide
  rw [this, BitVec.and_allOnes]
theorem getLsbD_low (x : W32) (i j : Nat) (hi : i ≤ 32) : (low x i).getLsbD j = (decide (j < i) && x.getLsbD j) := by
  unfold low
  rw [BitVec.getLsbD_and, BitVec.getLsbD_ofNat, Nat.testBit_two_pow_sub_one]
  by_cases hj : j < 32
  · simp [hj, Bool.and_comm]
  · have : x.getLsbD j = false := BitVec.getLsbD_of_ge x j (by omega)
    simp [this]
theorem low_succ (x : W32) (i : Nat) (hi : i < 32) : low x (i + 1) = if (x >>> i) &&& 1#32 = 1#32 then low x i ^^^ (1#32 <<< i) else low x i := by
  have e : ((x >>> i) &&& 1#32 = 1#32) ↔ x.getLsbD i = true := by
    rw [bit0, BitVec.getLsbD_ushiftRight, Nat.add_zero]
    cases x.getLsbD i <;> simp
  apply BitVec.eq_of_getLsbD_eq
  intro j hj
  rw [getLsbD_low _ _ _ (by omega)]
  by_cases h : x.getLsbD i = true
  · rw [if_pos (e.2 h), BitVec.getLsbD_xor, getLsbD_low _ _ _ (by omega), BitVec.getLsbD_shiftLeft, BitVec.getLsbD_one]
    by_cases h1 : j < i
    · simp [h1, show j < i + 1 by omega]
    · by_cases h2 : j = i
      · subst h2; simp [h, hj]
      · have : ¬ j < i + 1 := by omega
        have h3 : ¬ (j - i = 0) := by omega
        simp [h1, this, h3]
  · rw [if_neg (fun hh => h (e.1 hh)), getLsbD_low _ _ _ (by omega)]
    by_cases h1 : j < i
    · simp [h1, show j < i + 1 by omega]
    · by_cases h2 : j = i
      · subst h2; simp [h]
      · have : ¬ j < i + 1 := by omega
        simp [h1, this]
/-- The matrix m does what f does. -/
def Rep (m : List W32) (f : W32 → W32) : Prop := ∀ x, ofF m x = f x
theorem ofN_lin {m : List W32} {f : W32 → W32} (h0 : f 0#32 = 0#32) (hf : ∀ a b, f (a ^^^ b) = f a ^^^ f b) (hm : ∀ j, j < 32 → mAt m j = f (1#32 <<< j)) (x : W32) :
    ∀ i, i ≤ 32 → ofN m x i = f (low x i) := by
  intro i
  induction i with
  | zero => intro _; rw [low_zero, h0]; rfl
  | succ i ih =>
    intro hi
    rw [low_succ x i (by omega), ofN, ih (by omega), hm i (by omega)]
    split
    · rw [hf]
    · rfl
theorem rep_of {m : List W32} {f : W32 → W32} (h0 : f 0#32 = 0#32) (hf : ∀ a b, f (a ^^^ b) = f a ^^^ f b) (hm : ∀ j, j < 32 → mAt m j = f (1#32 <<< j)) : Rep m f := fun x => by
  unfold ofF; rw [ofN_lin h0 hf hm x 32 (Nat.le_refl _), low_all]
theorem one_rep : Rep (oneN 32) (stpN 1) :=
  rep_of (by decide) (stpN_xor 1) (by decide)
theorem twN_at (m : List W32) (n : Nat) (hn : n ≤ 32) (j : Nat) (hj : j < n) : mAt (twN m n) j = ofF m (mAt m j) := by
  induction n with
  | zero => omega
  | succ n ih =>
    unfold mAt at *
    rw [twN, List.getD_eq_getElem?_getD, List.getElem?_set]
    by_cases h : n = j
    · subst h
      rw [if_pos rfl, if_pos (by rw [twN_len]; omega)]
      simp [mAt]
    · rw [if_neg h, ← List.getD_eq_getElem?_getD, ih (by omega) (by omega)]
theorem tw_rep {m : List W32} {n : Nat} (h : Rep m (stpN n)) (hm : ∀ j, j < 32 → mAt m j = stpN n (1#32 <<< j)) : (∀ j, j < 32 → mAt (twF m) j = stpN (n + n) (1#32 <<< j)) := by
  intro j hj
  unfold twF
  rw [twN_at m 32 (Nat.le_refl _) j hj, h, hm j hj, stpN_add]
/-- What the walks carry: the matrix is as long as it must be, and it is the n steps' own. -/
def Mat (m : List W32) (n : Nat) : Prop := m.length = 32 ∧ ∀ j, j < 32 → mAt m j = stpN n (1#32 <<< j)
theorem Mat.rep {m : List W32} {n : Nat} (h : Mat m n) : Rep m (stpN n) := rep_of (stpN_zero n) (stpN_xor n) h.2
theorem Mat.one : Mat (oneN 32) 1 := ⟨oneN_len 32, by decide⟩
theorem Mat.twice {m : List W32} {n : Nat} (h : Mat m n) : Mat (twF m) (n + n) := ⟨twF_len m, tw_rep h.rep h.2⟩
theorem Mat.of {m : List W32} {n : Nat} (h : Mat m n) (x : W32) : ofF m x = stpN n x := h.rep x
/-! Bit by bit: the document's own way. -/
def goK (c v : W32) : Nat → W32
  | 0 => c
  | k + 1 => if goK c v k &&& 1#32 = (v >>> k) &&& 1#32 then goK c v k >>> 1 else (goK c v k >>> 1) ^^^ poly
theorem goK_eq {c v : W32} {k : Nat} (h : goK c v k &&& 1#32 = (v >>> k) &&& 1#32) : goK c v (k + 1) = goK c v k >>> 1 := if_pos h
theorem goK_ne {c v : W32} {k : Nat} (h : goK c v k &&& 1#32 ≠ (v >>> k) &&& 1#32) : goK c v (k + 1) = (goK c v k >>> 1) ^^^ poly := if_neg h
set_option maxRecDepth 100000 in
theorem stpN_bit : ∀ k, k < 32 → stpN k (1#32 <<< k) = 1#32 := by decide
theorem stp_flip (r b : W32) (hb : b = 0#32 ∨ b = 1#32) : (if r &&& 1#32 = b then r >>> 1 else (r >>> 1) ^^^ poly) = stp (r ^^^ b) := by
  rw [stp_eq, bit0, BitVec.getLsbD_xor, BitVec.ushiftRight_xor_distrib]
  rcases hb with rfl | rfl
  · cases r.getLsbD 0 <;> simp
  · have : (1#32 >>> 1) = 0#32 := by decide
    rw [this]
    cases r.getLsbD 0 <;> simp
theorem goK_run (c v : W32) : ∀ k, k ≤ 32 → goK c v k = stpN k (c ^^^ low v k) := by
  intro k
  induction k with
  | zero => intro _; simp [goK, low_zero, stpN]
  | succ k ih =>
    intro hk
    have hb : (v >>> k) &&& 1#32 = 0#32 ∨ (v >>> k) &&& 1#32 = 1#32 := by rw [bit0]; cases (v >>> k).getLsbD 0 <;> simp
    rw [goK, stp_flip _ _ hb, ih (by omega), stpN, low_succ v k (by omega)]
    congr 1
    split
    · rename_i h
      rw [← BitVec.xor_assoc, stpN_xor k _ (1#32 <<< k), stpN_bit k (by omega), h]
    · rename_i h
      rcases hb with hb | hb
      · rw [hb, BitVec.xor_zero]
      · exact absurd hb h
theorem low_byte (b : UInt8) : low (BitVec.ofNat 32 b.toNat) 8 = BitVec.ofNat 32 b.toNat := by
  have h := b.toNat_lt
  apply BitVec.eq_of_toNat_eq
  unfold low
  rw [BitVec.toNat_and, BitVec.toNat_ofNat, BitVec.toNat_ofNat]
  rw [show (2 ^ 8 - 1) % 2 ^ 32 = 2 ^ 8 - 1 by decide, Nat.and_two_pow_sub_one_eq_mod]
  omega
theorem goK_byte (c : W32) (b : UInt8) : goK c (BitVec.ofNat 32 b.toNat) 8 = inB c b := by
  rw [goK_run _ _ 8 (by decide), low_byte]; rfl
end Go.Proofs.YtcakellhellddaaGreatDoor
namespace Go.Proofs.YtcakellhellddaaGreatDoor
open Go.RowKit
attribute [local go_sem] xor_tn xor_nat xor_poly and_one not_tn half_tn
set_option maxHeartbeats 400000 in
theorem again_any (c : W32) (s : ByteArray) (w : World) (hs : s.size ≤ 140737488351232) :
    Calls Tryz.prog 90 #[.int .u32 (tn c), .string s] w fun e w' => e = .returned (.int .u32 (tn (againF c s.data.toList))) ∧ w' = w := by
  go_enter Tryz.func90, Tryz.ntmps90
  go_wp2
  go_loop [5, 12] (fun r i => ∃ k : Nat, k ≤ s.size ∧ i = .int .i64 k ∧ r = .int .u32 (tn (runB (~~~c) (s.data.toList.take k)))) (fun _ i => s.size - (intOf i).toNat)
  case atStart => exact ⟨0, Nat.zero_le _, rfl, rfl⟩
  case round =>
    obtain ⟨k, hk, rfl, rfl⟩ := hrel
    by_cases hlt : k < s.size
    · have hb : s[k].toNat < 256 := s[k].toNat_lt
      obtain ⟨r0, hr0⟩ : ∃ r : W32, runB (~~~c) (s.data.toList.take k) = r := ⟨_, rfl⟩
      rw [hr0]
      have HR := Lib.hid hr0; clear hr0
      go_wp2
      go_loop [5, 21] (fun r i => ∃ j : Nat, j ≤ 8 ∧ i = .int .i64 j ∧ r = .int .u32 (tn (stpN j (r0 ^^^ BitVec.ofNat 32 s[k].toNat)))) (fun _ i => 8 - (intOf i).toNat)
      case atStart => exact ⟨0, by omega, rfl, rfl⟩
      case round =>
        obtain ⟨j, hj, rfl, rfl⟩ := hrel
        by_cases hj8 : j < 8
        · obtain ⟨r1, hr1⟩ : ∃ r : W32, stpN j (r0 ^^^ BitVec.ofNat 32 s[k].toNat) = r := ⟨_, rfl⟩
          have HS : stpN (j+1) (r0 ^^^ BitVec.ofNat 32 s[k].toNat) = stp r1 := by rw [← hr1]; rfl
          have HS := Lib.hid HS
          rw [hr1]; clear hr1
          by_cases ho : r1 &&& 1#32 = 1#32
          · have h1 := tn_eq_one _ ho
            have HO := Lib.hid ho; clear ho
            go_wp2
            go_round
            case rel => exact ⟨j+1, by omega, by go_num, by rw [HS.out, stp_odd HO.out]⟩
            case measure => simp [intOf]; omega
          · have h1 := tn_ne_one _ ho
            have HO := Lib.hid ho; clear ho
            go_wp2
            go_round
            case rel => exact ⟨j+1, by omega, by go_num, by rw [HS.out, stp_even HO.out]⟩
            case measure => simp [intOf]; omega
        · have hj : j = 8 := by omega
          subst hj
          have HT := Lib.hid (take_snoc s k hlt)
          go_wp2
          go_round
          case rel => exact ⟨k+1, by omega, by go_num, by rw [HT.out]; unfold runB; rw [List.foldl_append]; have h := HR.out; unfold runB at h; rw [h]; rfl⟩
          case measure => simp [intOf]; omega
    · have hk' : k = s.size := by omega
      subst hk'
      go_wp2
      go_ret
      exact ⟨by rw [List.take_of_length_le (by simp)]; rfl, rfl⟩
end Go.Proofs.YtcakellhellddaaGreatDoor
