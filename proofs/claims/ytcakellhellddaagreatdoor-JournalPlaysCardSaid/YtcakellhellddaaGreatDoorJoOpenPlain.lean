import Derived.Test.YtcakellhellddaaGreatDoorJoSectors
import Derived.Test.YtcakellhellddaaGreatDoorFrStrs
import Derived.WalkMore
set_option linter.unusedSimpArgs false
set_option linter.unusedVariables false
namespace Go.Proofs.YtcakellhellddaaGreatDoor
/-! What Open reads, as data. -/
/-- The records from a place on: at most k. -/
def recsF (l : List ByteArray) : Nat → Nat → Nat → List ByteArray → List ByteArray × Nat × Nat
  | 0, next, used, recs => (recs, next, used)
  | k + 1, next, used, recs => if used < l.length ∧ (readF (l.drop used) next).2.2 = true then recsF l k (next + 1) (used + (readF (l.drop used) next).2.1) (recs ++ [(readF (l.drop used) next).1]) else (recs, next, used)
/-- The journal of an area: it, the error. -/
def beginsF (m : DM) (area : Nat) : Option JM × Int :=
  if m.dead then (none, 74)
  else if (readF [m.at area] (secNum (m.at area))).2.2 = false ∨ (readF [m.at area] (secNum (m.at area))).1 ≠ headB area ∨ 2148483648 < secNum (m.at area) then (none, 0)
  else if (readF (secsM m (firstF m area) (jsize m)) (secNum (m.at area))).2.2 = false then (none, 0)
  else (some ⟨area, (readF (secsM m (firstF m area) (jsize m)) (secNum (m.at area))).1,
    (recsF (secsM m (firstF m area) (jsize m)) (jsize m) (secNum (m.at area) + 1) (readF (secsM m (firstF m area) (jsize m)) (secNum (m.at area))).2.1 []).1,
    (recsF (secsM m (firstF m area) (jsize m)) (jsize m) (secNum (m.at area) + 1) (readF (secsM m (firstF m area) (jsize m)) (secNum (m.at area))).2.1 []).2.1,
    (recsF (secsM m (firstF m area) (jsize m)) (jsize m) (secNum (m.at area) + 1) (readF (secsM m (firstF m area) (jsize m)) (secNum (m.at area))).2.1 []).2.2, false⟩, 0)
/-- The younger one of two areas' journals. -/
def pickF : Option JM → Option JM → Option JM × Int
  | none, none => (none, 11)
  | some a, none => (some a, 0)
  | none, some b => (some b, 0)
  | some a, some b => if a.next - a.recs.length < b.next - b.recs.length then (some b, 0) else (some a, 0)
def openF (m : DM) : Option JM × Int :=
  if jsize m = 0 then (none, 1) else if m.dead then (none, 74) else pickF (beginsF m 0).1 (beginsF m 1).1
theorem readF_ok {l : List ByteArray} {num : Nat} (h : (readF l num).2.2 = true) : 1 ≤ (readF l num).2.1 ∧ (readF l num).2.1 ≤ l.length ∧ num ≠ 0 ∧ (readF l num).2.1 = countF (l.headD ByteArray.empty) := by
  unfold readF at h ⊢
  split at h
  · simp [none3] at h
  rename_i h1
  rw [if_neg h1]
  split at h
  · simp [none3] at h
  rename_i h2
  rw [if_neg h2]
  split at h
  · rename_i h3
    rw [if_pos h3]
    unfold tailF at h ⊢
    split at h
    · simp [none3] at h
    rename_i h4
    rw [if_neg h4]
    split at h
    · simp [none3] at h
    rename_i h5
    rw [if_neg h5]
    dsimp only
    omega
  · simp [none3] at h
theorem recsF_stop (l : List ByteArray) (k next used : Nat) (recs : List ByteArray) (h : ¬ (used < l.length ∧ (readF (l.drop used) next).2.2 = true)) : recsF l k next used recs = (recs, next, used) := by
  cases k with
  | zero => rfl
  | succ k => unfold recsF; rw [if_neg h]
theorem recsF_step (l : List ByteArray) (k next used : Nat) (recs : List ByteArray) (hk : l.length ≤ used + k) (h1 : used < l.length) (h2 : (readF (l.drop used) next).2.2 = true) :
    ∃ k', k = k' + 1 ∧ recsF l k next used recs = recsF l k' (next + 1) (used + (readF (l.drop used) next).2.1) (recs ++ [(readF (l.drop used) next).1]) ∧ l.length ≤ used + (readF (l.drop used) next).2.1 + k' ∧ used + (readF (l.drop used) next).2.1 ≤ l.length := by
  obtain ⟨k', rfl⟩ : ∃ k', k = k' + 1 := ⟨k - 1, by omega⟩
  have hr := readF_ok h2
  rw [List.length_drop] at hr
  exact ⟨k', rfl, by rw [recsF.eq_2, if_pos ⟨h1, h2⟩], by omega, by omega⟩
end Go.Proofs.YtcakellhellddaaGreatDoor
namespace Go.Proofs.YtcakellhellddaaGreatDoor
theorem own_slice {w : World} {base n s : Nat} {e : TypeId} {v : Value} {xs : List Value} (h : w.ownsRow base e s v (n + 1) xs) : ∃ g cap, v = .slice (some ⟨g, 0, none⟩) (n + 1) cap := by
  rcases h.2 with ⟨_, h0⟩ | ⟨g, cap, cur, hv, _⟩
  · omega
  · exact ⟨g, cap, hv⟩
end Go.Proofs.YtcakellhellddaaGreatDoor
