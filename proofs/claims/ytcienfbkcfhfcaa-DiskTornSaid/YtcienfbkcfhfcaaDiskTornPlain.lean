import Derived.Test.YtcienfbkcfhfcaaDiskWr
import Derived.Test.YtcienfbkcfhfcaaDiskWakes
set_option linter.unusedSimpArgs false
set_option linter.unusedVariables false
namespace Go.Proofs.Ytcienfbkcfhfcaa
open Go.RowKit
/-! The law of the torn write, on data alone. -/
structure T1 (f0 : UInt8) (m : DM) (j : Nat) : Prop where
  len : m.S.length = 8
  dead : m.dead = false
  armed : m.armed = false
  writes : m.writes = j
  sec : ∀ q, q < j → m.at q = blkB f0
theorem may_ok {m : DM} {q : Nat} (hd : m.dead = false) (hq : q < m.S.length) : m.may (q : Int) = 0 := by
  unfold DM.may DM.good; rw [hd]; simp [hq]
theorem write_ok {m : DM} {q : Nat} {s : ByteArray} (hd : m.dead = false) (hq : q < m.S.length) (hs : s.size = 256) (hc : m.cuts = false) :
    m.write (q : Int) s = ({ m with S := m.S.set q s, left := m.left - 1, writes := wrap64 (m.writes + 1) }, 0) := by
  unfold DM.write; rw [may_ok hd hq, if_neg (by simp), if_neg (by simpa using hs), hc]; rfl
theorem T1.zero (f0 : UInt8) : T1 f0 (dNew 8) 0 := ⟨rfl, rfl, rfl, rfl, fun q hq => by omega⟩
theorem T1.step {f0 : UInt8} {m : DM} {j : Nat} (h : T1 f0 m j) (hj : j < 8) : (m.write (j : Int) (blkB f0)).2 = 0 ∧ T1 f0 (m.write (j : Int) (blkB f0)).1 (j + 1) := by
  have hc : m.cuts = false := by unfold DM.cuts; rw [h.armed]; rfl
  have e := write_ok (s := blkB f0) h.dead (by rw [h.len]; exact hj) (blkB_size f0) hc
  rw [e]
  refine ⟨rfl, by simp [h.len], h.dead, h.armed, ?_, fun q hq => ?_⟩
  · show wrap64 (m.writes + 1) = _
    rw [h.writes, IntWalk.wrap64_in _ (by omega)]; omega
  · by_cases hqj : q = j
    · subst hqj; exact DM.at_eq rfl (by rw [h.len]; exact hj)
    · rw [DM.at_ne rfl hqj]; exact h.sec q (by omega)
structure T2 (f0 f1 : UInt8) (i k p : Nat) (m : DM) (j : Nat) : Prop where
  len : m.S.length = 8
  dead : m.dead = false
  armed : m.armed = true
  left : m.left = (k : Int) - j
  part : m.part = p
  writes : m.writes = 8 + j
  sec : ∀ q, q < 8 → m.at ((i + q) % 8) = if 1 ≤ q ∧ q ≤ j then blkB f1 else blkB f0
theorem T2.zero {f0 : UInt8} (f1 : UInt8) {i k p : Nat} {m : DM} (h : T1 f0 m 8) (hk : k ≤ 5) (hp : p ≤ 255) : (m.arm (k : Int) (p : Int)).2 = 0 ∧ T2 f0 f1 i k p (m.arm (k : Int) (p : Int)).1 0 := by
  have ha : DM.arms (k : Int) (p : Int) = true := by simp [DM.arms]; omega
  have e : m.arm (k : Int) (p : Int) = ({ m with armed := true, left := k, part := p }, 0) := by unfold DM.arm; rw [if_pos ha]; rfl
  rw [e]
  refine ⟨rfl, h.len, h.dead, rfl, ?_, rfl, ?_, fun q hq => ?_⟩
  · show (k : Int) = k - (0 : Nat); omega
  · show m.writes = _; rw [h.writes]; rfl
  · rw [if_neg (by omega)]
    exact h.sec _ (by omega)
theorem T2.step {f0 f1 : UInt8} {i k p : Nat} {m : DM} {j : Nat} (h : T2 f0 f1 i k p m j) (hj : j < k) (hk : k ≤ 5) : (m.write (((i + 1 + j) % 8 : Nat) : Int) (blkB f1)).2 = 0 ∧ T2 f0 f1 i k p (m.write (((i + 1 + j) % 8 : Nat) : Int) (blkB f1)).1 (j + 1) := by
  have hc : m.cuts = false := by unfold DM.cuts; rw [h.armed, h.left]; simp; omega
  have e := write_ok (q := (i + 1 + j) % 8) (s := blkB f1) h.dead (by rw [h.len]; omega) (blkB_size f1) hc
  rw [e]
  refine ⟨rfl, by simp [h.len], h.dead, h.armed, ?_, h.part, ?_, fun q hq => ?_⟩
  · show m.left - 1 = _
    rw [h.left]; omega
  · show wrap64 (m.writes + 1) = _
    rw [h.writes, IntWalk.wrap64_in _ (by omega)]; omega
  · by_cases hqj : (i + q) % 8 = (i + 1 + j) % 8
    · have : q = j + 1 := by omega
      subst this
      rw [if_pos (by omega), hqj]
      exact DM.at_eq rfl (by rw [h.len]; omega)
    · rw [DM.at_ne rfl hqj, h.sec q hq]
      have : (1 ≤ q ∧ q ≤ j) ↔ (1 ≤ q ∧ q ≤ j + 1) := by
        constructor
        · rintro ⟨a, b⟩; omega
        · rintro ⟨a, b⟩
          refine ⟨a, ?_⟩
          rcases Nat.lt_or_ge q (j + 1) with h1 | h1
          · omega
          · exfalso; apply hqj
            have : q = j + 1 := by omega
            subst this; congr 1; omega
      simp only [this]
/-- Behind the cut. -/
structure T3 (f0 f1 f2 : UInt8) (i k p : Nat) (m : DM) : Prop where
  len : m.S.length = 8
  dead : m.dead = true
  armed : m.armed = false
  writes : m.writes = 8 + k
  sec : ∀ q, q < 8 → m.at ((i + q) % 8) = if q = 0 then torn p (blkB f2) (blkB f0) else if q ≤ k then blkB f1 else blkB f0
theorem T3.of {f0 f1 : UInt8} (f2 : UInt8) {i k p : Nat} {m : DM} (h : T2 f0 f1 i k p m k) (hi : i < 8) : (m.write (i : Int) (blkB f2)).2 = 74 ∧ T3 f0 f1 f2 i k p (m.write (i : Int) (blkB f2)).1 := by
  have hc : m.cuts = true := by unfold DM.cuts; rw [h.armed, h.left]; simp
  have e : m.write (i : Int) (blkB f2) = ({ m with S := m.S.set i (torn m.part (blkB f2) (m.at i)), dead := true, armed := false }, 74) := by
    unfold DM.write; rw [may_ok h.dead (by rw [h.len]; exact hi), if_neg (by simp), if_neg (by simpa using blkB_size f2), hc]; rfl
  rw [e]
  refine ⟨rfl, by simp [h.len], rfl, rfl, h.writes, fun q hq => ?_⟩
  by_cases hq0 : q = 0
  · subst hq0
    rw [if_pos rfl, Nat.add_zero, Nat.mod_eq_of_lt hi]
    have h0 := h.sec 0 (by omega)
    rw [Nat.add_zero, Nat.mod_eq_of_lt hi, if_neg (by omega)] at h0
    have e2 : DM.at { m with S := m.S.set i (torn m.part (blkB f2) (m.at i)), dead := true, armed := false } i = torn m.part (blkB f2) (m.at i) := DM.at_eq rfl (by rw [h.len]; exact hi)
    rw [e2, h.part, h0]
  · rw [if_neg hq0]
    have hne : (i + q) % 8 ≠ i := by omega
    have e2 : DM.at { m with S := m.S.set i (torn m.part (blkB f2) (m.at i)), dead := true, armed := false } ((i + q) % 8) = m.at ((i + q) % 8) := DM.at_ne rfl hne
    rw [e2, h.sec q hq]
    have : (1 ≤ q ∧ q ≤ k) ↔ q ≤ k := by omega
    simp only [this]
theorem T3.dead_write {f0 f1 f2 : UInt8} {i k p : Nat} {m : DM} (h : T3 f0 f1 f2 i k p m) (q : Int) (s : ByteArray) : m.write q s = (m, 74) := by
  have hm : m.may q = 74 := by unfold DM.may; rw [h.dead]; rfl
  unfold DM.write; rw [hm]; rfl
theorem T3.dead_read {f0 f1 f2 : UInt8} {i k p : Nat} {m : DM} (h : T3 f0 f1 f2 i k p m) (q : Int) : m.read q = (ByteArray.empty, 74) := by
  have hm : m.may q = 74 := by unfold DM.may; rw [h.dead]; rfl
  unfold DM.read; rw [hm]; rfl
theorem T3.read {f0 f1 f2 : UInt8} {i k p : Nat} {m : DM} (h : T3 f0 f1 f2 i k p m) (q : Nat) (hq : q < 8) :
    m.start.read (((i + q) % 8 : Nat) : Int) = ((if q = 0 then torn p (blkB f2) (blkB f0) else if q ≤ k then blkB f1 else blkB f0), 0) := by
  have hm : m.start.may (((i + q) % 8 : Nat) : Int) = 0 := may_ok rfl (by show _ < m.S.length; rw [h.len]; omega)
  unfold DM.read
  rw [if_pos hm]
  have : (((i + q) % 8 : Nat) : Int).toNat = (i + q) % 8 := Int.toNat_natCast _
  rw [this]
  have e : m.start.at ((i + q) % 8) = m.at ((i + q) % 8) := rfl
  rw [e, h.sec q hq]
theorem T3.last {f0 f1 f2 : UInt8} {i k p : Nat} {m : DM} (h : T3 f0 f1 f2 i k p m) (hi : i < 8) (hk : k ≤ 5) (s : ByteArray) (hs : s.size = 256) :
    (m.start.write (i : Int) s).2 = 0 ∧ (m.start.write (i : Int) s).1.writes = 8 + k + 1 := by
  have hc : m.start.cuts = false := rfl
  have e := write_ok (m := m.start) (q := i) (s := s) rfl (by show _ < m.S.length; rw [h.len]; exact hi) hs hc
  rw [e]
  refine ⟨rfl, ?_⟩
  show wrap64 (m.writes + 1) = _
  rw [h.writes, IntWalk.wrap64_in _ (by omega)]
end Go.Proofs.Ytcienfbkcfhfcaa
