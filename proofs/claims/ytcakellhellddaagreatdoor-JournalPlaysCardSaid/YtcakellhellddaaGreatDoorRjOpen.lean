import Derived.Test.YtcakellhellddaaGreatDoorJoOpen2
import Derived.Test.YtcakellhellddaaGreatDoorJoLaw
import Derived.Test.YtcakellhellddaaGreatDoorRjFns
import Derived.WalkMore
set_option linter.unusedSimpArgs false
set_option linter.unusedVariables false
namespace Go.Proofs.YtcakellhellddaaGreatDoor
/-! The reference's Open, as data: the best head first, the records behind it. -/
/-- The head and base of an area, as a journal without records. -/
def rHeadF (m : DM) (a : Nat) : Option JM :=
  if (readF [m.at a] (secNum (m.at a))).2.2 = false ∨ (readF [m.at a] (secNum (m.at a))).1 ≠ headB a ∨ (readF (secsM m (firstF m a) (jsize m)) (secNum (m.at a))).2.2 = false ∨ 2148483648 < secNum (m.at a) then none
  else some ⟨a, (readF (secsM m (firstF m a) (jsize m)) (secNum (m.at a))).1, [], secNum (m.at a) + 1, (readF (secsM m (firstF m a) (jsize m)) (secNum (m.at a))).2.1, false⟩
def rTop : Option JM → Nat
  | none => 0
  | some j => j.next - 1
def rBestF (m : DM) : Nat → Option JM
  | 0 => none
  | i + 1 => match rHeadF m i with
    | none => rBestF m i
    | some j => if j.next - 1 ≤ rTop (rBestF m i) then rBestF m i else some j
theorem rBest_succ (m : DM) (i : Nat) : rBestF m (i + 1) = match rHeadF m i with
    | none => rBestF m i
    | some j => if j.next - 1 ≤ rTop (rBestF m i) then rBestF m i else some j := rfl
/-- Its records behind it: at most k. -/
def rFullF (m : DM) (k : Nat) (j : JM) : JM :=
  { j with recs := (recsF (secsM m (firstF m j.area) (jsize m)) k j.next j.used []).1, next := (recsF (secsM m (firstF m j.area) (jsize m)) k j.next j.used []).2.1, used := (recsF (secsM m (firstF m j.area) (jsize m)) k j.next j.used []).2.2 }
theorem secNum_pos {x : ByteArray} {l : List ByteArray} (h : (readF l (secNum x)).2.2 = true) : 0 < secNum x := by
  have := (readF_ok h).2.2.1
  omega
theorem rHead_begins {m : DM} {a : Nat} (hd : m.dead = false) : (beginsF m a).1 = (rHeadF m a).map (rFullF m (jsize m)) := by
  unfold beginsF rHeadF
  rw [hd, if_neg (by simp)]
  by_cases h1 : (readF [m.at a] (secNum (m.at a))).2.2 = false ∨ (readF [m.at a] (secNum (m.at a))).1 ≠ headB a ∨ 2148483648 < secNum (m.at a)
  · rw [if_pos h1, if_pos (by rcases h1 with h | h | h <;> simp [h])]; rfl
  · rw [if_neg h1]
    by_cases h2 : (readF (secsM m (firstF m a) (jsize m)) (secNum (m.at a))).2.2 = false
    · rw [if_pos h2, if_pos (.inr (.inr (.inl h2)))]; rfl
    · rw [if_neg h2, if_neg (by rintro (h | h | h | h); exact h1 (.inl h); exact h1 (.inr (.inl h)); exact h2 h; exact h1 (.inr (.inr h)))]
      rfl
theorem rHead_pos {m : DM} {a : Nat} {j : JM} (h : rHeadF m a = some j) : 2 ≤ j.next ∧ j.recs = [] ∧ j.area = a ∧ j.next ≤ 2148483649 ∧ 1 ≤ j.used ∧ j.used ≤ jsize m ∧ j.dead = false := by
  unfold rHeadF at h
  split at h
  · cases h
  · rename_i hc
    obtain rfl := Option.some.inj h
    have h1 : (readF [m.at a] (secNum (m.at a))).2.2 = true := by
      cases hx : (readF [m.at a] (secNum (m.at a))).2.2
      · exact absurd (.inl hx) hc
      · rfl
    have h2 : (readF (secsM m (firstF m a) (jsize m)) (secNum (m.at a))).2.2 = true := by
      cases hx : (readF (secsM m (firstF m a) (jsize m)) (secNum (m.at a))).2.2
      · exact absurd (.inr (.inr (.inl hx))) hc
      · rfl
    have h3 : ¬ 2148483648 < secNum (m.at a) := fun hx => hc (.inr (.inr (.inr hx)))
    have := secNum_pos h1
    have h4 := readF_ok h2
    have h5 : (secsM m (firstF m a) (jsize m)).length = jsize m := by unfold secsM; simp
    rw [h5] at h4
    refine ⟨?_, rfl, rfl, ?_, h4.1, h4.2.1, rfl⟩
    · show 2 ≤ secNum (m.at a) + 1; omega
    · show secNum (m.at a) + 1 ≤ 2148483649; omega
theorem rFull_num {m : DM} {k : Nat} {j : JM} (h : j.recs = []) : numJ (rFullF m k j) = j.next := by
  show (recsF _ k j.next j.used []).2.1 - (recsF _ k j.next j.used []).1.length = j.next
  rw [recsF_base _ _ _ _ _ (Nat.zero_le _)]; simp
theorem rBest_recs {m : DM} : ∀ {i : Nat} {j : JM}, rBestF m i = some j → ∃ a, a < i ∧ rHeadF m a = some j
  | 0, _, h => by cases h
  | i + 1, j, h => by
    rw [rBest_succ] at h
    cases hq : rHeadF m i with
    | none =>
      rw [hq] at h
      obtain ⟨a, h1, h2⟩ := rBest_recs (i := i) h
      exact ⟨a, by omega, h2⟩
    | some c =>
      rw [hq] at h
      dsimp only at h
      by_cases hc : c.next - 1 ≤ rTop (rBestF m i)
      · rw [if_pos hc] at h
        obtain ⟨a, h1, h2⟩ := rBest_recs (i := i) h
        exact ⟨a, by omega, h2⟩
      · rw [if_neg hc] at h
        exact ⟨i, by omega, by rw [hq, h]⟩
theorem best_eq {m : DM} (hd : m.dead = false) : ∀ i, bestF m i = (rBestF m i).map (rFullF m (jsize m))
  | 0 => rfl
  | i + 1 => by
    have ih := best_eq hd i
    show betterF (bestF m i) (beginsF m i).1 = _
    rw [ih, rHead_begins hd, rBest_succ]
    cases hq : rHeadF m i with
    | none => rfl
    | some c =>
      have hp := rHead_pos hq
      dsimp only [Option.map]
      cases hb : rBestF m i with
      | none =>
        rw [if_neg (show ¬ c.next - 1 ≤ rTop none by show ¬ c.next - 1 ≤ 0; omega)]
        rfl
      | some a =>
        obtain ⟨a0, _, ha⟩ := rBest_recs hb
        have hpa := rHead_pos ha
        show (if numJ (rFullF m (jsize m) a) < numJ (rFullF m (jsize m) c) then some (rFullF m (jsize m) c) else some (rFullF m (jsize m) a)) = _
        rw [rFull_num hpa.2.1, rFull_num hp.2.1]
        by_cases hc : a.next < c.next
        · rw [if_pos hc, if_neg (show ¬ c.next - 1 ≤ rTop (some a) by show ¬ c.next - 1 ≤ a.next - 1; omega)]
        · rw [if_neg hc, if_pos (show c.next - 1 ≤ rTop (some a) by show c.next - 1 ≤ a.next - 1; omega)]
theorem recsF_more (l : List ByteArray) : ∀ (k k' next used : Nat) (acc : List ByteArray), l.length ≤ used + k → k ≤ k' → recsF l k' next used acc = recsF l k next used acc
  | 0, k', next, used, acc, h, _ => by rw [recsF_stop l k' next used acc (by intro h2; omega)]; rfl
  | k + 1, k', next, used, acc, h, hk => by
    obtain ⟨q, rfl⟩ : ∃ q, k' = q + 1 := ⟨k' - 1, by omega⟩
    by_cases hc : used < l.length ∧ (readF (l.drop used) next).2.2 = true
    · have hr := readF_ok hc.2
      rw [recsF.eq_2, recsF.eq_2, if_pos hc, if_pos hc]
      exact recsF_more l k q _ _ _ (by omega) (by omega)
    · rw [recsF_stop l _ _ _ _ hc, recsF_stop l _ _ _ _ hc]
/-- What the reference's Open comes to. -/
theorem rOpen_eq {m : DM} (hz : jsize m ≠ 0) (hzz : jsize m ≤ 5000) (hd : m.dead = false) : openF m = match rBestF m 2 with
    | none => (none, 11)
    | some j => (some (rFullF m 5000 j), 0) := by
  rw [best_pick hz hd, best_eq hd]
  cases hb : rBestF m 2 with
  | none => rfl
  | some j =>
    obtain ⟨a, _, ha⟩ := rBest_recs hb
    have hp := rHead_pos ha
    have hl : (secsM m (firstF m j.area) (jsize m)).length = jsize m := by unfold secsM; simp
    have : rFullF m 5000 j = rFullF m (jsize m) j := by
      unfold rFullF
      rw [recsF_more (secsM m (firstF m j.area) (jsize m)) (jsize m) 5000 j.next j.used [] (by omega) hzz]
    show (some (rFullF m (jsize m) j), (0 : Int)) = (some (rFullF m 5000 j), 0)
    rw [this]
end Go.Proofs.YtcakellhellddaaGreatDoor
namespace Go.Proofs.YtcakellhellddaaGreatDoor
open Go.RowKit
theorem RefAt.strs {w : World} {b sb : Nat} {m : DM} (h : RefAt w b sb m) (f z c : Nat) (hz : f + z ≤ m.S.length) (hz0 : 0 < z) (hc : z ≤ c) : StrsAt w (.slice (some ⟨sb, f, none⟩) z c) (secsM m f z) := by
  obtain ⟨_, hwf, l, cap, cur, hb, hs, h1, h2, h3, _⟩ := h
  have hlen := hwf.len
  have hl : (secsM m f z).length = z := by unfold secsM; simp
  refine ⟨_, _, by rw [hl], by omega, by omega, fun _ => ⟨sb, f, rfl, hs.lt, fun j x hj => ?_⟩⟩
  have hjz : j < z := by have := (List.getElem?_eq_some_iff.1 hj).1; omega
  rw [secsM_get m f z j hjz] at hj
  obtain rfl := Option.some.inj hj
  rw [hs.cell]
  exact h3 (f + j) (by omega)
set_option maxHeartbeats 2000000 in
theorem rjSectors_any (rb sb : Nat) (m : DM) (hz : jsize m ≠ 0) (area : Nat) (ha : area ≤ 1) (w : World) (h : RefAt w rb sb m) :
    Calls Tryz.prog 53 #[.pointer (some ⟨rb, 0, none⟩), .int .i64 area] w fun e w' => ∃ c, e = .returned (.slice (some ⟨sb, firstF m area, none⟩) (jsize m) c) ∧ StrsAt w' (.slice (some ⟨sb, firstF m area, none⟩) (jsize m) c) (secsM m (firstF m area) (jsize m)) ∧ jsize m ≤ c ∧ c ≤ maxLen ∧ Below w.heap.size w w' := by
  obtain ⟨cap, c0, hc1, hc2⟩ := h.cell0
  have hf := first_room hz ha
  have hj := jsize_facts hz
  have hlen := h.wf.len
  have HR := Lib.hid h
  have HZ := Lib.hid hz
  obtain ⟨f, hfe⟩ : ∃ f, f = firstF m area := ⟨_, rfl⟩
  obtain ⟨z, hze⟩ : ∃ z, z = jsize m := ⟨_, rfl⟩
  obtain ⟨N, hN⟩ : ∃ N, N = m.S.length := ⟨_, rfl⟩
  rw [← hfe, ← hze, ← hN] at hf
  rw [← hze, ← hN] at hj
  rw [← hN] at c0 hc1 hlen
  rw [← hfe, ← hze]
  have hss := Lib.hid (fun c (hc : z ≤ c) => HR.out.strs f z c (by rw [← hN]; omega) (by omega) hc)
  have HF := Lib.hid hfe
  have HZE := Lib.hid hze
  unfold maxLen at hc2
  have hz0 : 0 < z := by omega
  clear h hz hfe hze hN
  go_enter Tryz.func53, Tryz.ntmps53
  have q1 : (f : Int) ≤ (f : Int) + (z : Int) := by omega
  have hcf : ¬ cap = f := by omega
  have q2 : (f : Int) + (z : Int) ≤ (cap : Int) := by omega
  have ms : IntKind.i64.wrap ((f : Int) + (z : Int)) = (f : Int) + (z : Int) := by rw [IntKind.wrap_i64]; omega
  go_wp2_with fail
  refine wp_region_held_drew (S := fun w' => w'.cell? ⟨rb, 0, none⟩ = some (.slice (some ⟨sb, 0, none⟩) N cap)) (by kernel_rfl) c0 (fun hHeld => ?_)
  refine take_op 0 (some 5) (v := ?_) rfl rfl (by kernel_rfl) (by kernel_rfl) (by kernel_rfl) (fun _ _ _ h => h) (Or.inl ⟨by rfl, ?_⟩) (by assumption) ?_
  rotate_left
  · intro w_ hSw_; (try dsimp only at hSw_); go_simp; (try with_reducible rfl)
  try simp only [Act.put, List.setIfInBounds_toArray, List.set_cons_zero, List.set_cons_succ]
  refine take_op 1 (some 6) (v := ?_) rfl rfl (by kernel_rfl) (by kernel_rfl) (by kernel_rfl) (fun _ _ _ h => h) (Or.inl ⟨by rfl, ?_⟩) (by assumption) ?_
  rotate_left
  · intro w_ hSw_; (try dsimp only at hSw_); go_simp; (try with_reducible rfl)
  try simp only [Act.put, List.setIfInBounds_toArray, List.set_cons_zero, List.set_cons_succ]
  refine take_op 2 (some 7) (v := ?_) rfl rfl (by kernel_rfl) (by kernel_rfl) (by kernel_rfl) (fun _ _ _ h => h) (Or.inl ⟨by rfl, ?_⟩) (by assumption) ?_
  rotate_left
  · intro w_ hSw_; (try dsimp only at hSw_); go_simp; (try with_reducible rfl)
  try simp only [Act.put, List.setIfInBounds_toArray, List.set_cons_zero, List.set_cons_succ]
  refine take_op 3 (some 8) (v := ?_) rfl rfl (by kernel_rfl) (by kernel_rfl) (by kernel_rfl) (fun _ _ _ h => h) (Or.inl ⟨by rfl, ?_⟩) (by assumption) ?_
  rotate_left
  · intro w_ hSw_; (try dsimp only at hSw_); go_simp; (try with_reducible rfl)
  try simp only [Act.put, List.setIfInBounds_toArray, List.set_cons_zero, List.set_cons_succ]
  refine take_op 4 (some 9) (v := ?_) rfl rfl (by kernel_rfl) (by kernel_rfl) (by kernel_rfl) (fun _ _ _ h => h) (Or.inl ⟨by rfl, ?_⟩) (by assumption) ?_
  rotate_left
  · intro w_ hSw_; (try dsimp only at hSw_); go_simp; (try with_reducible rfl)
  try simp only [Act.put, List.setIfInBounds_toArray, List.set_cons_zero, List.set_cons_succ]
  refine take_op 5 (some 10) (v := ?_) rfl rfl (by kernel_rfl) (by kernel_rfl) (by kernel_rfl) (fun _ _ _ h => h) (Or.inl ⟨by rfl, ?_⟩) (by assumption) ?_
  rotate_left
  · intro w_ hSw_; (try dsimp only at hSw_); go_simp; (try with_reducible rfl)
  try simp only [Act.put, List.setIfInBounds_toArray, List.set_cons_zero, List.set_cons_succ]
  refine take_op 7 (some 12) (v := ?_) rfl rfl (by kernel_rfl) (by kernel_rfl) (by kernel_rfl) (fun _ _ _ h => h) (Or.inl ⟨by rfl, ?_⟩) (by assumption) ?_
  rotate_left
  · intro w_ hSw_; (try dsimp only at hSw_); go_simp; (try with_reducible rfl)
  try simp only [Act.put, List.setIfInBounds_toArray, List.set_cons_zero, List.set_cons_succ]
  refine take_op 8 (some 13) (v := ?_) rfl rfl (by kernel_rfl) (by kernel_rfl) (by kernel_rfl) (fun _ _ _ h => h) (Or.inl ⟨by rfl, ?_⟩) (by assumption) ?_
  rotate_left
  · intro w_ hSw_; (try dsimp only at hSw_); go_simp; (try with_reducible rfl)
  try simp only [Act.put, List.setIfInBounds_toArray, List.set_cons_zero, List.set_cons_succ]
  refine take_op 10 (some 15) (v := ?_) rfl rfl (by kernel_rfl) (by kernel_rfl) (by kernel_rfl) (fun _ _ _ h => h) (Or.inl ⟨by rfl, ?_⟩) (by assumption) ?_
  rotate_left
  · intro w_ hSw_; (try dsimp only at hSw_); go_simp; (try with_reducible rfl)
  try simp only [Act.put, List.setIfInBounds_toArray, List.set_cons_zero, List.set_cons_succ]
  refine go_op 6 rfl (by kernel_rfl) (fun K_ hK_ => ?_)
  go_simp
  refine (rjStart_any rb sb m HZ.out area ha _ (HR.out.grown ((Below.refl _ w).drew))).mono ?_
  rintro e w1 ⟨rfl, hw1⟩
  have hw1 := hw1.symm
  subst hw1
  rw [← HF.out]
  simp only [Act.put, List.setIfInBounds_toArray, List.set_cons_zero, List.set_cons_succ]
  refine hK_.out _ _ hHeld (fun hHeld_ => ?_)
  refine go_op 9 rfl (by kernel_rfl) (fun K_ hK_ => ?_)
  go_simp
  refine (rjStart_any rb sb m HZ.out area ha _ (HR.out.grown ((Below.refl _ w).drew))).mono ?_
  rintro e w1 ⟨rfl, hw1⟩
  have hw1 := hw1.symm
  subst hw1
  rw [← HF.out]
  simp only [Act.put, List.setIfInBounds_toArray, List.set_cons_zero, List.set_cons_succ]
  refine hK_.out _ _ hHeld (fun hHeld_ => ?_)
  refine go_op 11 rfl (by kernel_rfl) (fun K_ hK_ => ?_)
  go_simp
  refine (rjRoom_any rb sb m HZ.out _ (HR.out.grown ((Below.refl _ w).drew))).mono ?_
  rintro e w1 ⟨rfl, hw1⟩
  have hw1 := hw1.symm
  subst hw1
  rw [← HZE.out]
  simp only [Act.put, List.setIfInBounds_toArray, List.set_cons_zero, List.set_cons_succ]
  refine hK_.out _ _ hHeld (fun hHeld_ => ?_)
  refine take_op 12 (some 17) (v := ?_) rfl rfl (by kernel_rfl) (by kernel_rfl) (by kernel_rfl) (fun _ _ _ h => h) (Or.inl ⟨by rfl, ?_⟩) (by assumption) ?_
  rotate_left
  · intro w_ hSw_; (try dsimp only at hSw_); go_simp; (try with_reducible rfl)
  try simp only [Act.put, List.setIfInBounds_toArray, List.set_cons_zero, List.set_cons_succ]
  refine take_op 13 (some 18) (v := ?_) rfl rfl (by kernel_rfl) (by kernel_rfl) (by kernel_rfl) (fun _ _ _ h => h) (Or.inl ⟨by rfl, ?_⟩) (by assumption) ?_
  rotate_left
  · intro w_ hSw_; (try dsimp only at hSw_); go_simp; (try with_reducible rfl)
  try simp only [Act.put, List.setIfInBounds_toArray, List.set_cons_zero, List.set_cons_succ]
  refine take_op 14 (some 4) (v := ?_) rfl rfl (by kernel_rfl) (by kernel_rfl) (by kernel_rfl) (fun _ _ _ h => h) (Or.inl ⟨by rfl, ?_⟩) (by assumption) ?_
  rotate_left
  · intro w_ hSw_; (try dsimp only at hSw_); go_simp; (try with_reducible rfl)
  try simp only [Act.put, List.setIfInBounds_toArray, List.set_cons_zero, List.set_cons_succ]
  refine wpAnyH_done (by kernel_rfl) ?_ _
  go_wp2_with fail
  go_ret
  have hzl : ((f : Int) + (z : Int)).toNat - f = z := by omega
  have hcz : z ≤ cap - f := by omega
  refine ⟨cap - f, ?_, (hss.out (cap - f) hcz).below ((Below.refl _ w).drew), hcz, by unfold maxLen; omega, (Below.refl _ w).drew⟩
  rw [hzl]; rfl
end Go.Proofs.YtcakellhellddaaGreatDoor
namespace Go.Proofs.YtcakellhellddaaGreatDoor
open Go.RowKit
/-- A reference journal that may be, at a value; its row is nobody else's. -/
def RBestAt (n rb : Nat) (wr : World) (x : Value) : Option JM → Prop
  | none => x = .pointer none
  | some j => ∃ qb, x = .pointer (some ⟨qb, 0, none⟩) ∧ RJ wr qb rb (.slice none 0 0) j ∧ n ≤ qb
theorem RBestAt.grown {n rb : Nat} {w w' : World} {x : Value} : ∀ {o : Option JM}, RBestAt n rb w x o → Below w.heap.size w w' → RBestAt n rb w' x o
  | none, h, _ => h
  | some _, ⟨qb, h1, h2, h3⟩, hb => ⟨qb, h1, h2.grown hb, h3⟩
/-- What the reference's Open leaves. -/
def ROpen (rb : Nat) (r : Option JM × Int) (w : World) (e : Ending) (w' : World) : Prop :=
  Below w.heap.size w w' ∧
  match r.1 with
  | none => e = .returned (.tuple #[.pointer none, .int .i64 r.2])
  | some j => ∃ qb v, e = .returned (.tuple #[.pointer (some ⟨qb, 0, none⟩), .int .i64 r.2]) ∧ RJ w' qb rb v j ∧ w.heap.size ≤ qb ∧ (∀ k, v.ownBlock = some k → w.heap.size ≤ k ∧ k ≠ qb)
theorem own_lt2 {w : World} {base n s : Nat} {e : TypeId} {v : Value} {xs : List Value} (h : w.ownsRow base e s v n xs) : ∀ k, v.ownBlock = some k → k < w.heap.size := by
  intro k hk
  rcases h.2 with ⟨rfl, _⟩ | ⟨g, cap, cur, rfl, hb, h3, _⟩
  · cases hk
  · have := lt_of_block h3
    simp [Value.ownBlock] at hk; omega
theorem step_store_row {ops : Array Oper} {o : Oper} {a : Act} {w : World} {K : Act → World → Prop} {Q : Exit → Act → World → Prop} {E : Prop} (hgd : o.guard = none) (ty : TypeId) (x y : Operand) (ho : o.op = .store ty x y)
    (d : Option Tmp) (hd : o.dst = d) (g : Nat) (cells : Array Value) (hx : a.eval x = .pointer (some ⟨g, 0, none⟩)) (hy : a.eval y = .agg cells)
    (t : TypeId) (old : Array Value) (hg : Blk w g old t) (hi : (Tryz.prog.info? ty).map (·.size) = some cells.size) (hold : old.size = cells.size) (h1 : cells.all (·.oneCell') = true)
    (h : K (a.put d undef) (w.setRow g cells)) : if Region.wanted o (yielded ops a.tmps) = true then Oper.wp Tryz.prog o a w K Q else E := by
  subst hd
  rw [if_pos (by simp [Region.wanted, hgd])]
  exact wp_store_row ty x y ho g cells hx hy t old hg hi hold h1 h
theorem StrsAt.dropped {w : World} {b o n c u : Nat} {l : List ByteArray} (h : StrsAt w (.slice (some ⟨b, o, none⟩) n c) l) (hu : u ≤ n) :
    StrsAt w (.slice (if c = u then some ⟨b, o, none⟩ else some ⟨b, o + u, none⟩) (n - u) (c - u)) (l.drop u) := by
  obtain ⟨a, c', he, h2, h3, h4⟩ := h
  injection he with he1 he2 he3
  subst he2 he3
  refine ⟨_, _, by rw [List.length_drop], by rw [List.length_drop]; omega, by rw [List.length_drop]; omega, fun hl => ?_⟩
  rw [List.length_drop] at hl
  obtain ⟨b5, o5, h5, h6, h7⟩ := h4 (by omega)
  rw [← he1] at h5
  injection h5 with h5
  injection h5 with h5 h8 _
  subst h5 h8
  refine ⟨_, _, if_neg (by omega), h6, fun j x hj => ?_⟩
  rw [List.getElem?_drop] at hj
  have := h7 (u + j) x hj
  rw [← Nat.add_assoc] at this
  exact this
set_option maxRecDepth 100000 in
set_option maxHeartbeats 8000000 in
theorem rjOpen_any (rb sb : Nat) (m : DM) (w : World) (h : RefAt w rb sb m) :
    Calls Tryz.prog 20 #[.pointer (some ⟨rb, 0, none⟩)] w (ROpen rb (openF m) w) := by
  obtain ⟨cap, c0, hc1, hc2⟩ := h.cell0
  have HD := Lib.hid h
  have HLT := Lib.hid h.lt
  have hwf := Lib.hid h.wf
  have hjl := jsize_le h.wf
  have hlen := h.wf.len
  have c1 : w.cell? ⟨rb, 1, none⟩ = some (.bool m.dead) := by
    obtain ⟨_, _, _, _, _, hb, _⟩ := h
    exact hb.cell 1
  unfold maxLen at hc2
  obtain ⟨N, hN⟩ : ∃ N, N = m.S.length := ⟨_, rfl⟩
  rw [← hN] at hlen c0 hc1
  have HN := Lib.hid hN
  have HC0 := Lib.hid c0
  have HC1 := Lib.hid c1
  clear h hN
  by_cases hz0 : jsize m = 0
  · have hF : Hid (openF m = (none, 1)) := Lib.hid (by unfold openF; rw [if_pos hz0])
    have hdec : Hid (decide (jsize m ≠ 0) = false) := Lib.hid (by simp [hz0])
    clear hz0
    go_enter Tryz.func20, Tryz.ntmps20
    go_wp2_with fail
    refine (rjFits_any rb sb m _ HD.out).mono ?_
    rintro e w1 ⟨rfl, hb1⟩
    rw [hdec.out]
    go_wp2_with fail
    go_ret2
    rw [hF.out]
    exact ⟨hb1, rfl⟩
  have HZ := Lib.hid hz0
  have hdec : Hid (decide (jsize m ≠ 0) = true) := Lib.hid (by simp [hz0])
  go_enter Tryz.func20, Tryz.ntmps20
  go_wp2_with fail
  refine (rjFits_any rb sb m _ HD.out).mono ?_
  rintro e w1 ⟨rfl, hb1⟩
  rw [hdec.out]
  have HB1 := Lib.hid hb1
  have d1 : w1.cell? ⟨rb, 1, none⟩ = some (.bool m.dead) := (hb1.cell (p := ⟨rb, 1, none⟩) HLT.out.1).trans HC1.out
  clear hb1 c1
  cases hde : m.dead
  · rw [hde] at d1
    have hF0 : Hid (openF m = match rBestF m 2 with
      | none => (none, 11)
      | some j => (some (rFullF m 5000 j), 0)) := Lib.hid (rOpen_eq HZ.out (by omega) hde)
    have HDE := Lib.hid hde
    have hz8 : 8 ≤ N := by have := (jsize_facts HZ.out).1; rw [← HN.out] at this; exact this
    obtain ⟨z, hz⟩ : ∃ z, z = jsize m := ⟨_, rfl⟩
    rw [← hz] at hjl
    have HZE := Lib.hid hz
    clear hde hz0 hz c0
    go_wp2_with fail
    go_loopw [4, 5, 6] (fun x y k wr => ∃ i : Nat, i ≤ 2 ∧ k = .int .i64 i ∧ y = .int .u32 (rTop (rBestF m i) : Int) ∧ RBestAt w.heap.size rb wr x (rBestF m i) ∧ Below w.heap.size w wr) (fun _ _ k _ => 2 - (intOf k).toNat)
    case atStart => exact ⟨0, by omega, rfl, rfl, rfl, HB1.out⟩
    case round =>
      obtain ⟨i, hi, rfl, rfl, hbest, hB⟩ := hrel
      have HBEST := Lib.hid hbest
      have HB := Lib.hid hB
      have HDR := Lib.hid (HD.out.grown hB)
      have e0 : wr.cell? ⟨rb, 0, none⟩ = some (.slice (some ⟨sb, 0, none⟩) N cap) := (hB.cell (p := ⟨rb, 0, none⟩) HLT.out.1).trans HC0.out
      obtain ⟨o, ho⟩ : ∃ o, o = rBestF m i := ⟨_, rfl⟩
      rw [← ho] at HBEST ⊢
      have HO := Lib.hid ho
      obtain ⟨t, ht⟩ : ∃ t, t = rTop o := ⟨_, rfl⟩
      rw [← ht]
      have HT := Lib.hid ht
      clear hbest hB ho ht
      by_cases hlt : i < 2
      · have g1 : (i : Int) < 2 := by omega
        have hsz : (m.at i).size = 256 := DM.at_size hwf.out (by rw [← HN.out]; omega)
        have es : wr.cell? ⟨sb, i, none⟩ = some (.string (m.at i)) := by
          have hq := (HDR.out.strs i 1 1 (by rw [← HN.out]; omega) (by omega) (by omega)).out
          obtain ⟨a, c, he, _, hsrc⟩ := hq
          injection he with he1 _ _
          obtain ⟨b5, o5, h5, _, h6⟩ := hsrc (by unfold secsM; simp)
          rw [← he1] at h5
          injection h5 with h5
          injection h5 with h7 h8 _
          subst h7 h8
          have := h6 0 (m.at i) (by rw [secsM_get m i 1 0 (by omega)]; rfl)
          exact this
        obtain ⟨x, hx⟩ : ∃ x, x = m.at i := ⟨_, rfl⟩
        rw [← hx] at hsz es
        have HX := Lib.hid hx
        have HSZ := Lib.hid hsz
        clear hx hsz
        go_wp2_with fail
        refine (rfNum_any x (by rw [HSZ.out]; simp [maxLen]) _).mono ?_
        rintro e w2 ⟨rfl, hb2⟩
        have hnl := secNum_lt x
        obtain ⟨num, hnum⟩ : ∃ num, num = secNum x := ⟨_, rfl⟩
        rw [← hnum] at hnl ⊢
        have HNUM := Lib.hid hnum
        have HB2 := Lib.hid (HB.out.trans (hb2.mono HB.out.size))
        have HBEST2 := Lib.hid (HBEST.out.grown hb2)
        have k0 : w2.cell? ⟨rb, 0, none⟩ = some (.slice (some ⟨sb, 0, none⟩) N cap) := (hb2.cell (p := ⟨rb, 0, none⟩) HDR.out.lt.1).trans e0
        have ks : w2.cell? ⟨sb, i, none⟩ = some (.string x) := (hb2.cell (p := ⟨sb, i, none⟩) HDR.out.lt.2).trans es
        have hS3 : StrsAt (w2.alloc (.cells #[.string x] 9)) (.slice (some ⟨w2.heap.size, 0, none⟩) 1 1) [x] := by
          obtain ⟨b5, o5, h5, h6, h7⟩ := row_src w2 x (by simp)
          exact ⟨_, _, rfl, by simp, by simp, fun _ => ⟨b5, o5, h5, h6, h7⟩⟩
        have HS3 := Lib.hid hS3
        have HD2 := Lib.hid (HDR.out.grown hb2)
        clear hnum hb2 e0 es hS3
        go_wp2_with fail
        refine (rfRead_strs (.slice (some ⟨w2.heap.size, 0, none⟩) 1 1) [x] num hnl (by simp) (by simp [HSZ.out]) _ HS3.out).mono ?_
        rintro e w3 ⟨rfl, hb3⟩
        have hb3 := (alloc_below w2 (.cells #[.string x] 9)).trans (hb3.mono (alloc_size _ _))
        have HB3 := Lib.hid (HB2.out.trans (hb3.mono HB2.out.size))
        have HBEST3 := Lib.hid (HBEST2.out.grown hb3)
        have HD3 := Lib.hid (HD2.out.grown hb3)
        obtain ⟨r1, hr1⟩ : ∃ r, r = readF [x] num := ⟨_, rfl⟩
        rw [← hr1]
        have HR1 := Lib.hid hr1
        obtain ⟨s1, n1, ok1⟩ := r1
        unfold gotS
        dsimp only
        clear hb3 hr1 k0 ks
        obtain ⟨w4, hw4⟩ : ∃ w4, w4 = w3.alloc (.cells #[.string s1, .int .i64 (n1 : Int), .bool ok1] 88) := ⟨_, rfl⟩
        have hb4 : Below w3.heap.size w3 w4 := by rw [hw4]; exact alloc_below _ _
        have hK4 : Blk w4 w3.heap.size #[.string s1, .int .i64 (n1 : Int), .bool ok1] 88 := by rw [hw4]; exact Blk.new _ _ _
        have HB4 := Lib.hid (HB3.out.trans (hb4.mono HB3.out.size))
        have HBEST4 := Lib.hid (HBEST3.out.grown hb4)
        have HD4 := Lib.hid (HD3.out.grown hb4)
        have HK4 := Lib.hid hK4
        clear hb4 hK4
        go_wp2_with fail
        rw [← hw4]
        clear hw4
        refine (rjSectors_any rb sb m HZ.out i (by omega) _ HD4.out).mono ?_
        rintro e w5 ⟨c5, rfl, hs5, hc5, hc6, hb5⟩
        have HB5 := Lib.hid (HB4.out.trans (hb5.mono HB4.out.size))
        have HBEST5 := Lib.hid (HBEST4.out.grown hb5)
        have HD5 := Lib.hid (HD4.out.grown hb5)
        have HK5 := Lib.hid (HK4.out.below hb5 HK4.out.lt)
        have HS5 := Lib.hid hs5
        clear hb5 hs5 hc5 hc6
        go_wp2_with fail
        refine (rfRead_strs _ (secsM m (firstF m i) (jsize m)) num hnl (by rw [secsM_len']; have := jsize_le hwf.out; omega) (fun y hy => by rw [secsM_size hwf.out (first_room HZ.out (by omega)).2 y hy]; omega) _ HS5.out).mono ?_
        rintro e w6 ⟨rfl, hb6⟩
        have HB6 := Lib.hid (HB5.out.trans (hb6.mono HB5.out.size))
        have HBEST6 := Lib.hid (HBEST5.out.grown hb6)
        have HD6 := Lib.hid (HD5.out.grown hb6)
        have HK6 := Lib.hid (HK5.out.below hb6 HK5.out.lt)
        obtain ⟨r2, hr2⟩ : ∃ r, r = readF (secsM m (firstF m i) (jsize m)) num := ⟨_, rfl⟩
        rw [← hr2]
        have HR2 := Lib.hid hr2
        obtain ⟨s2, n2, ok2⟩ := r2
        unfold gotS
        dsimp only
        clear hb6 hr2
        obtain ⟨w7, hw7⟩ : ∃ w7, w7 = w6.alloc (.cells #[.string s2, .int .i64 (n2 : Int), .bool ok2] 88) := ⟨_, rfl⟩
        have hb7 : Below w6.heap.size w6 w7 := by rw [hw7]; exact alloc_below _ _
        have hQ7 : Blk w7 w6.heap.size #[.string s2, .int .i64 (n2 : Int), .bool ok2] 88 := by rw [hw7]; exact Blk.new _ _ _
        have HB7 := Lib.hid (HB6.out.trans (hb7.mono HB6.out.size))
        have HBEST7 := Lib.hid (HBEST6.out.grown hb7)
        have HD7 := Lib.hid (HD6.out.grown hb7)
        have HK7 := Lib.hid (HK6.out.below hb7 HK6.out.lt)
        have HQ7 := Lib.hid hQ7
        have a0 : w7.cell? ⟨w3.heap.size, 0, none⟩ = some (.string s1) := HK7.out.cell 0
        have a2 : w7.cell? ⟨w3.heap.size, 2, none⟩ = some (.bool ok1) := HK7.out.cell 2
        have b0 : w7.cell? ⟨w6.heap.size, 0, none⟩ = some (.string s2) := HQ7.out.cell 0
        have b1 : w7.cell? ⟨w6.heap.size, 1, none⟩ = some (.int .i64 (n2 : Int)) := HQ7.out.cell 1
        have b2 : w7.cell? ⟨w6.heap.size, 2, none⟩ = some (.bool ok2) := HQ7.out.cell 2
        clear hb7 hQ7
        go_wp2_with fail
        rw [← hw7]
        clear hw7
        have hHd : Hid (rHeadF m i = if ok1 = false ∨ s1 ≠ headB i ∨ ok2 = false ∨ 2148483648 < num then none else some ⟨i, s2, [], num + 1, n2, false⟩) := Lib.hid (by
          unfold rHeadF; rw [← HX.out, ← HNUM.out, ← HR1.out, ← HR2.out])
        have hNo : Hid (rHeadF m i = none → rBestF m (i + 1) = o) := Lib.hid (fun h => by rw [rBest_succ, h]; exact HO.out.symm)
        have HBx := Lib.hid HB7.out.drew
        have HBEx := Lib.hid (HBEST7.out.grown ((Below.refl _ w7).drew))
        refine wp_region_held_drew (S := fun w' => w'.cell? ⟨w3.heap.size, 0, none⟩ = some (.string s1) ∧ w'.cell? ⟨w3.heap.size, 2, none⟩ = some (.bool ok1) ∧ w'.cell? ⟨w6.heap.size, 2, none⟩ = some (.bool ok2)) (by kernel_rfl) ⟨a0, a2, b2⟩ (fun hHeld => ?_)
        cases ok1
        · have hNone : Hid (rBestF m (i + 1) = o) := Lib.hid (hNo.out (by rw [hHd.out, if_pos (.inl rfl)]))
          refine take_op 0 (some 47) (v := ?_) rfl rfl (by kernel_rfl) (by kernel_rfl) (by kernel_rfl) (fun _ _ _ h => h) (Or.inl ⟨by rfl, ?_⟩) (by assumption) ?_
          rotate_left
          · intro w_ hSw_; (try dsimp only at hSw_); go_simp; (try with_reducible rfl)
          try simp only [Act.put, List.setIfInBounds_toArray, List.set_cons_zero, List.set_cons_succ]
          refine take_op 1 (some 48) (v := ?_) rfl rfl (by kernel_rfl) (by kernel_rfl) (by kernel_rfl) (fun _ _ _ h => h) (Or.inl ⟨by rfl, ?_⟩) (by assumption) ?_
          rotate_left
          · intro w_ hSw_; (try dsimp only at hSw_); go_simp; (try with_reducible rfl)
          try simp only [Act.put, List.setIfInBounds_toArray, List.set_cons_zero, List.set_cons_succ]
          refine take_op 2 (some 49) (v := ?_) rfl rfl (by kernel_rfl) (by kernel_rfl) (by kernel_rfl) (fun _ _ _ h => h) (Or.inl ⟨by rfl, ?_⟩) (by assumption) ?_
          rotate_left
          · intro w_ hSw_; (try dsimp only at hSw_); go_simp; (try with_reducible rfl)
          try simp only [Act.put, List.setIfInBounds_toArray, List.set_cons_zero, List.set_cons_succ]
          refine take_op 3 (some 50) (v := ?_) rfl rfl (by kernel_rfl) (by kernel_rfl) (by kernel_rfl) (fun _ _ _ h => h) (Or.inl ⟨by rfl, ?_⟩) (by assumption) ?_
          rotate_left
          · intro w_ hSw_; (try dsimp only at hSw_); go_simp; (try with_reducible rfl)
          try simp only [Act.put, List.setIfInBounds_toArray, List.set_cons_zero, List.set_cons_succ]
          refine take_op 4 (some 51) rfl rfl (by kernel_rfl) (by kernel_rfl) (by kernel_rfl) (fun _ _ _ h => h) (Or.inr ⟨by rfl, rfl⟩) (by assumption) ?_
          try simp only [Act.put, List.setIfInBounds_toArray, List.set_cons_zero, List.set_cons_succ]
          refine take_op 5 (some 52) rfl rfl (by kernel_rfl) (by kernel_rfl) (by kernel_rfl) (fun _ _ _ h => h) (Or.inr ⟨by rfl, rfl⟩) (by assumption) ?_
          try simp only [Act.put, List.setIfInBounds_toArray, List.set_cons_zero, List.set_cons_succ]
          refine take_op 6 (some 53) rfl rfl (by kernel_rfl) (by kernel_rfl) (by kernel_rfl) (fun _ _ _ h => h) (Or.inr ⟨by rfl, rfl⟩) (by assumption) ?_
          try simp only [Act.put, List.setIfInBounds_toArray, List.set_cons_zero, List.set_cons_succ]
          refine take_op 7 (some 54) rfl rfl (by kernel_rfl) (by kernel_rfl) (by kernel_rfl) (fun _ _ _ h => h) (Or.inr ⟨by rfl, rfl⟩) (by assumption) ?_
          try simp only [Act.put, List.setIfInBounds_toArray, List.set_cons_zero, List.set_cons_succ]
          refine take_op 8 (some 55) rfl rfl (by kernel_rfl) (by kernel_rfl) (by kernel_rfl) (fun _ _ _ h => h) (Or.inr ⟨by rfl, rfl⟩) (by assumption) ?_
          try simp only [Act.put, List.setIfInBounds_toArray, List.set_cons_zero, List.set_cons_succ]
          refine take_op 9 (some 56) (v := ?_) rfl rfl (by kernel_rfl) (by kernel_rfl) (by kernel_rfl) (fun _ _ _ h => h) (Or.inl ⟨by rfl, ?_⟩) (by assumption) ?_
          rotate_left
          · intro w_ hSw_; (try dsimp only at hSw_); go_simp; (try with_reducible rfl)
          try simp only [Act.put, List.setIfInBounds_toArray, List.set_cons_zero, List.set_cons_succ]
          refine take_op 10 (some 57) (v := ?_) rfl rfl (by kernel_rfl) (by kernel_rfl) (by kernel_rfl) (fun _ _ _ h => h) (Or.inl ⟨by rfl, ?_⟩) (by assumption) ?_
          rotate_left
          · intro w_ hSw_; (try dsimp only at hSw_); go_simp; (try with_reducible rfl)
          try simp only [Act.put, List.setIfInBounds_toArray, List.set_cons_zero, List.set_cons_succ]
          refine take_op 11 (some 58) rfl rfl (by kernel_rfl) (by kernel_rfl) (by kernel_rfl) (fun _ _ _ h => h) (Or.inr ⟨by rfl, rfl⟩) (by assumption) ?_
          try simp only [Act.put, List.setIfInBounds_toArray, List.set_cons_zero, List.set_cons_succ]
          refine take_op 12 (some 59) rfl rfl (by kernel_rfl) (by kernel_rfl) (by kernel_rfl) (fun _ _ _ h => h) (Or.inr ⟨by rfl, rfl⟩) (by assumption) ?_
          try simp only [Act.put, List.setIfInBounds_toArray, List.set_cons_zero, List.set_cons_succ]
          refine take_op 13 (some 60) rfl rfl (by kernel_rfl) (by kernel_rfl) (by kernel_rfl) (fun _ _ _ h => h) (Or.inr ⟨by rfl, rfl⟩) (by assumption) ?_
          try simp only [Act.put, List.setIfInBounds_toArray, List.set_cons_zero, List.set_cons_succ]
          refine take_op 14 (some 61) (v := ?_) rfl rfl (by kernel_rfl) (by kernel_rfl) (by kernel_rfl) (fun _ _ _ h => h) (Or.inl ⟨by rfl, ?_⟩) (by assumption) ?_
          rotate_left
          · intro w_ hSw_; (try dsimp only at hSw_); go_simp; (try with_reducible rfl)
          try simp only [Act.put, List.setIfInBounds_toArray, List.set_cons_zero, List.set_cons_succ]
          refine take_op 15 (some 62) (v := ?_) rfl rfl (by kernel_rfl) (by kernel_rfl) (by kernel_rfl) (fun _ _ _ h => h) (Or.inl ⟨by rfl, ?_⟩) (by assumption) ?_
          rotate_left
          · intro w_ hSw_; (try dsimp only at hSw_); go_simp; (try with_reducible rfl)
          try simp only [Act.put, List.setIfInBounds_toArray, List.set_cons_zero, List.set_cons_succ]
          refine take_op 16 (some 63) rfl rfl (by kernel_rfl) (by kernel_rfl) (by kernel_rfl) (fun _ _ _ h => h) (Or.inr ⟨by rfl, rfl⟩) (by assumption) ?_
          try simp only [Act.put, List.setIfInBounds_toArray, List.set_cons_zero, List.set_cons_succ]
          refine take_op 17 (some 64) rfl rfl (by kernel_rfl) (by kernel_rfl) (by kernel_rfl) (fun _ _ _ h => h) (Or.inr ⟨by rfl, rfl⟩) (by assumption) ?_
          try simp only [Act.put, List.setIfInBounds_toArray, List.set_cons_zero, List.set_cons_succ]
          refine take_op 18 (some 65) (v := ?_) rfl rfl (by kernel_rfl) (by kernel_rfl) (by kernel_rfl) (fun _ _ _ h => h) (Or.inl ⟨by rfl, ?_⟩) (by assumption) ?_
          rotate_left
          · intro w_ hSw_; (try dsimp only at hSw_); go_simp; (try with_reducible rfl)
          try simp only [Act.put, List.setIfInBounds_toArray, List.set_cons_zero, List.set_cons_succ]
          refine take_op 19 (some 66) (v := ?_) rfl rfl (by kernel_rfl) (by kernel_rfl) (by kernel_rfl) (fun _ _ _ h => h) (Or.inl ⟨by rfl, ?_⟩) (by assumption) ?_
          rotate_left
          · intro w_ hSw_; (try dsimp only at hSw_); go_simp; (try with_reducible rfl)
          try simp only [Act.put, List.setIfInBounds_toArray, List.set_cons_zero, List.set_cons_succ]
          refine take_op 20 (some 67) rfl rfl (by kernel_rfl) (by kernel_rfl) (by kernel_rfl) (fun _ _ _ h => h) (Or.inr ⟨by rfl, rfl⟩) (by assumption) ?_
          try simp only [Act.put, List.setIfInBounds_toArray, List.set_cons_zero, List.set_cons_succ]
          refine take_op 21 (some 68) rfl rfl (by kernel_rfl) (by kernel_rfl) (by kernel_rfl) (fun _ _ _ h => h) (Or.inr ⟨by rfl, rfl⟩) (by assumption) ?_
          try simp only [Act.put, List.setIfInBounds_toArray, List.set_cons_zero, List.set_cons_succ]
          refine take_op 22 (some 69) rfl rfl (by kernel_rfl) (by kernel_rfl) (by kernel_rfl) (fun _ _ _ h => h) (Or.inr ⟨by rfl, rfl⟩) (by assumption) ?_
          try simp only [Act.put, List.setIfInBounds_toArray, List.set_cons_zero, List.set_cons_succ]
          refine take_op 23 (some 70) (v := ?_) rfl rfl (by kernel_rfl) (by kernel_rfl) (by kernel_rfl) (fun _ _ _ h => h) (Or.inl ⟨by rfl, ?_⟩) (by assumption) ?_
          rotate_left
          · intro w_ hSw_; (try dsimp only at hSw_); go_simp; (try with_reducible rfl)
          try simp only [Act.put, List.setIfInBounds_toArray, List.set_cons_zero, List.set_cons_succ]
          refine wpAnyH_done (by kernel_rfl) ?_ _
          go_wp2_with fail
          go_roundw
          case rel => exact ⟨i + 1, by omega, by go_num, by rw [hNone.out, ← HT.out], by rw [hNone.out]; exact HBEx.out, HBx.out⟩
          case measure => simp [intOf]; omega
        · skip
          refine take_op 0 (some 47) (v := ?_) rfl rfl (by kernel_rfl) (by kernel_rfl) (by kernel_rfl) (fun _ _ _ h => h) (Or.inl ⟨by rfl, ?_⟩) (by assumption) ?_
          rotate_left
          · intro w_ hSw_; (try dsimp only at hSw_); go_simp; (try with_reducible rfl)
          try simp only [Act.put, List.setIfInBounds_toArray, List.set_cons_zero, List.set_cons_succ]
          refine take_op 1 (some 48) (v := ?_) rfl rfl (by kernel_rfl) (by kernel_rfl) (by kernel_rfl) (fun _ _ _ h => h) (Or.inl ⟨by rfl, ?_⟩) (by assumption) ?_
          rotate_left
          · intro w_ hSw_; (try dsimp only at hSw_); go_simp; (try with_reducible rfl)
          try simp only [Act.put, List.setIfInBounds_toArray, List.set_cons_zero, List.set_cons_succ]
          refine take_op 2 (some 49) (v := ?_) rfl rfl (by kernel_rfl) (by kernel_rfl) (by kernel_rfl) (fun _ _ _ h => h) (Or.inl ⟨by rfl, ?_⟩) (by assumption) ?_
          rotate_left
          · intro w_ hSw_; (try dsimp only at hSw_); go_simp; (try with_reducible rfl)
          try simp only [Act.put, List.setIfInBounds_toArray, List.set_cons_zero, List.set_cons_succ]
          refine take_op 3 (some 50) (v := ?_) rfl rfl (by kernel_rfl) (by kernel_rfl) (by kernel_rfl) (fun _ _ _ h => h) (Or.inl ⟨by rfl, ?_⟩) (by assumption) ?_
          rotate_left
          · intro w_ hSw_; (try dsimp only at hSw_); go_simp; (try with_reducible rfl)
          try simp only [Act.put, List.setIfInBounds_toArray, List.set_cons_zero, List.set_cons_succ]
          refine take_op 4 (some 51) (v := ?_) rfl rfl (by kernel_rfl) (by kernel_rfl) (by kernel_rfl) (fun _ _ _ h => h) (Or.inl ⟨by rfl, ?_⟩) (by assumption) ?_
          rotate_left
          · intro w_ hSw_; (try dsimp only at hSw_); go_simp; (try with_reducible rfl)
          try simp only [Act.put, List.setIfInBounds_toArray, List.set_cons_zero, List.set_cons_succ]
          refine take_op 5 (some 52) (v := ?_) rfl rfl (by kernel_rfl) (by kernel_rfl) (by kernel_rfl) (fun _ _ _ h => h) (Or.inl ⟨by rfl, ?_⟩) (by assumption) ?_
          rotate_left
          · intro w_ hSw_; (try dsimp only at hSw_); go_simp; (try with_reducible rfl)
          try simp only [Act.put, List.setIfInBounds_toArray, List.set_cons_zero, List.set_cons_succ]
          refine take_op 6 (some 53) (v := ?_) rfl rfl (by kernel_rfl) (by kernel_rfl) (by kernel_rfl) (fun _ _ _ h => h) (Or.inl ⟨by rfl, ?_⟩) (by assumption) ?_
          rotate_left
          · intro w_ hSw_; (try dsimp only at hSw_); go_simp; (try with_reducible rfl)
          try simp only [Act.put, List.setIfInBounds_toArray, List.set_cons_zero, List.set_cons_succ]
          refine go_op 7 rfl (by kernel_rfl) (fun K_ hK_ => ?_)
          go_simp
          refine (rjHead_any i (by omega) _).mono ?_
          rintro e w8 ⟨rfl, hb8⟩
          have hb8 := (Below.refl w7.heap.size w7).drew.trans hb8
          have HBx := Lib.hid (HB7.out.trans (hb8.mono HB7.out.size))
          have HBEx := Lib.hid (HBEST7.out.grown hb8)
          have HK8 := Lib.hid (HK7.out.below hb8 HK7.out.lt)
          have HQ8 := Lib.hid (HQ7.out.below hb8 HQ7.out.lt)
          obtain ⟨hd, hhd⟩ : ∃ hd, hd = headB i := ⟨_, rfl⟩
          rw [← hhd]
          have HHD := Lib.hid hhd
          have y0 : w8.cell? ⟨w6.heap.size, 0, none⟩ = some (.string s2) := HQ8.out.cell 0
          have y1 : w8.cell? ⟨w6.heap.size, 1, none⟩ = some (.int .i64 (n2 : Int)) := HQ8.out.cell 1
          clear hb8 hhd a0 a2 b0 b1 b2
          try simp only [Act.put, List.setIfInBounds_toArray, List.set_cons_zero, List.set_cons_succ]
          refine hK_.out _ _ ⟨HK8.out.cell 0, HK8.out.cell 2, HQ8.out.cell 2⟩ (fun hHeld_ => ?_)
          by_cases hsh : s1.toList = hd.toList
          · have hse : s1 = hd := ByteArray.ext (Array.toList_inj.1 (by have h9 := hsh; rw [Go.ByteArray.toList_eq, Go.ByteArray.toList_eq] at h9; exact h9))
            have HSE := Lib.hid hse
            clear hse
            refine take_op 8 (some 55) (v := ?_) rfl rfl (by kernel_rfl) (by kernel_rfl) (by kernel_rfl) (fun _ _ _ h => h) (Or.inl ⟨by rfl, ?_⟩) (by assumption) ?_
            rotate_left
            · intro w_ hSw_; (try dsimp only at hSw_); go_simp; (try with_reducible rfl)
            try simp only [Act.put, List.setIfInBounds_toArray, List.set_cons_zero, List.set_cons_succ]
            refine take_op 9 (some 56) (v := ?_) rfl rfl (by kernel_rfl) (by kernel_rfl) (by kernel_rfl) (fun _ _ _ h => h) (Or.inl ⟨by rfl, ?_⟩) (by assumption) ?_
            rotate_left
            · intro w_ hSw_; (try dsimp only at hSw_); go_simp; (try with_reducible rfl)
            try simp only [Act.put, List.setIfInBounds_toArray, List.set_cons_zero, List.set_cons_succ]
            refine take_op 10 (some 57) (v := ?_) rfl rfl (by kernel_rfl) (by kernel_rfl) (by kernel_rfl) (fun _ _ _ h => h) (Or.inl ⟨by rfl, ?_⟩) (by assumption) ?_
            rotate_left
            · intro w_ hSw_; (try dsimp only at hSw_); go_simp; (try with_reducible rfl)
            try simp only [Act.put, List.setIfInBounds_toArray, List.set_cons_zero, List.set_cons_succ]
            refine take_op 11 (some 58) (v := ?_) rfl rfl (by kernel_rfl) (by kernel_rfl) (by kernel_rfl) (fun _ _ _ h => h) (Or.inl ⟨by rfl, ?_⟩) (by assumption) ?_
            rotate_left
            · intro w_ hSw_; (try dsimp only at hSw_); go_simp; (try with_reducible rfl)
            try simp only [Act.put, List.setIfInBounds_toArray, List.set_cons_zero, List.set_cons_succ]
            refine take_op 12 (some 59) (v := ?_) rfl rfl (by kernel_rfl) (by kernel_rfl) (by kernel_rfl) (fun _ _ _ h => h) (Or.inl ⟨by rfl, ?_⟩) (by assumption) ?_
            rotate_left
            · intro w_ hSw_; (try dsimp only at hSw_); go_simp; (try with_reducible rfl)
            try simp only [Act.put, List.setIfInBounds_toArray, List.set_cons_zero, List.set_cons_succ]
            refine take_op 13 (some 60) (v := ?_) rfl rfl (by kernel_rfl) (by kernel_rfl) (by kernel_rfl) (fun _ _ _ h => h) (Or.inl ⟨by rfl, ?_⟩) (by assumption) ?_
            rotate_left
            · intro w_ hSw_; (try dsimp only at hSw_); go_simp; (try with_reducible rfl)
            try simp only [Act.put, List.setIfInBounds_toArray, List.set_cons_zero, List.set_cons_succ]
            cases ok2
            · have hNone : Hid (rBestF m (i + 1) = o) := Lib.hid (hNo.out (by rw [hHd.out, if_pos (.inr (.inr (.inl rfl)))]))
              refine take_op 14 (some 61) (v := ?_) rfl rfl (by kernel_rfl) (by kernel_rfl) (by kernel_rfl) (fun _ _ _ h => h) (Or.inl ⟨by rfl, ?_⟩) (by assumption) ?_
              rotate_left
              · intro w_ hSw_; (try dsimp only at hSw_); go_simp; (try with_reducible rfl)
              try simp only [Act.put, List.setIfInBounds_toArray, List.set_cons_zero, List.set_cons_succ]
              refine take_op 15 (some 62) (v := ?_) rfl rfl (by kernel_rfl) (by kernel_rfl) (by kernel_rfl) (fun _ _ _ h => h) (Or.inl ⟨by rfl, ?_⟩) (by assumption) ?_
              rotate_left
              · intro w_ hSw_; (try dsimp only at hSw_); go_simp; (try with_reducible rfl)
              try simp only [Act.put, List.setIfInBounds_toArray, List.set_cons_zero, List.set_cons_succ]
              refine take_op 16 (some 63) rfl rfl (by kernel_rfl) (by kernel_rfl) (by kernel_rfl) (fun _ _ _ h => h) (Or.inr ⟨by rfl, rfl⟩) (by assumption) ?_
              try simp only [Act.put, List.setIfInBounds_toArray, List.set_cons_zero, List.set_cons_succ]
              refine take_op 17 (some 64) rfl rfl (by kernel_rfl) (by kernel_rfl) (by kernel_rfl) (fun _ _ _ h => h) (Or.inr ⟨by rfl, rfl⟩) (by assumption) ?_
              try simp only [Act.put, List.setIfInBounds_toArray, List.set_cons_zero, List.set_cons_succ]
              refine take_op 18 (some 65) (v := ?_) rfl rfl (by kernel_rfl) (by kernel_rfl) (by kernel_rfl) (fun _ _ _ h => h) (Or.inl ⟨by rfl, ?_⟩) (by assumption) ?_
              rotate_left
              · intro w_ hSw_; (try dsimp only at hSw_); go_simp; (try with_reducible rfl)
              try simp only [Act.put, List.setIfInBounds_toArray, List.set_cons_zero, List.set_cons_succ]
              refine take_op 19 (some 66) (v := ?_) rfl rfl (by kernel_rfl) (by kernel_rfl) (by kernel_rfl) (fun _ _ _ h => h) (Or.inl ⟨by rfl, ?_⟩) (by assumption) ?_
              rotate_left
              · intro w_ hSw_; (try dsimp only at hSw_); go_simp; (try with_reducible rfl)
              try simp only [Act.put, List.setIfInBounds_toArray, List.set_cons_zero, List.set_cons_succ]
              refine take_op 20 (some 67) rfl rfl (by kernel_rfl) (by kernel_rfl) (by kernel_rfl) (fun _ _ _ h => h) (Or.inr ⟨by rfl, rfl⟩) (by assumption) ?_
              try simp only [Act.put, List.setIfInBounds_toArray, List.set_cons_zero, List.set_cons_succ]
              refine take_op 21 (some 68) rfl rfl (by kernel_rfl) (by kernel_rfl) (by kernel_rfl) (fun _ _ _ h => h) (Or.inr ⟨by rfl, rfl⟩) (by assumption) ?_
              try simp only [Act.put, List.setIfInBounds_toArray, List.set_cons_zero, List.set_cons_succ]
              refine take_op 22 (some 69) rfl rfl (by kernel_rfl) (by kernel_rfl) (by kernel_rfl) (fun _ _ _ h => h) (Or.inr ⟨by rfl, rfl⟩) (by assumption) ?_
              try simp only [Act.put, List.setIfInBounds_toArray, List.set_cons_zero, List.set_cons_succ]
              refine take_op 23 (some 70) (v := ?_) rfl rfl (by kernel_rfl) (by kernel_rfl) (by kernel_rfl) (fun _ _ _ h => h) (Or.inl ⟨by rfl, ?_⟩) (by assumption) ?_
              rotate_left
              · intro w_ hSw_; (try dsimp only at hSw_); go_simp; (try with_reducible rfl)
              try simp only [Act.put, List.setIfInBounds_toArray, List.set_cons_zero, List.set_cons_succ]
              refine wpAnyH_done (by kernel_rfl) ?_ _
              go_wp2_with fail
              go_roundw
              case rel => exact ⟨i + 1, by omega, by go_num, by rw [hNone.out, ← HT.out], by rw [hNone.out]; exact HBEx.out, HBx.out⟩
              case measure => simp [intOf]; omega
            · skip
              refine take_op 14 (some 61) (v := ?_) rfl rfl (by kernel_rfl) (by kernel_rfl) (by kernel_rfl) (fun _ _ _ h => h) (Or.inl ⟨by rfl, ?_⟩) (by assumption) ?_
              rotate_left
              · intro w_ hSw_; (try dsimp only at hSw_); go_simp; (try with_reducible rfl)
              try simp only [Act.put, List.setIfInBounds_toArray, List.set_cons_zero, List.set_cons_succ]
              refine take_op 15 (some 62) (v := ?_) rfl rfl (by kernel_rfl) (by kernel_rfl) (by kernel_rfl) (fun _ _ _ h => h) (Or.inl ⟨by rfl, ?_⟩) (by assumption) ?_
              rotate_left
              · intro w_ hSw_; (try dsimp only at hSw_); go_simp; (try with_reducible rfl)
              try simp only [Act.put, List.setIfInBounds_toArray, List.set_cons_zero, List.set_cons_succ]
              by_cases hbig : 2148483648 < num
              · have g5 : (2148483648 : Int) < (num : Int) := by omega
                have hNone : Hid (rBestF m (i + 1) = o) := Lib.hid (hNo.out (by rw [hHd.out, if_pos (.inr (.inr (.inr hbig)))]))
                refine take_op 16 (some 63) (v := ?_) rfl rfl (by kernel_rfl) (by kernel_rfl) (by kernel_rfl) (fun _ _ _ h => h) (Or.inl ⟨by rfl, ?_⟩) (by assumption) ?_
                rotate_left
                · intro w_ hSw_; (try dsimp only at hSw_); go_simp; (try with_reducible rfl)
                try simp only [Act.put, List.setIfInBounds_toArray, List.set_cons_zero, List.set_cons_succ]
                refine take_op 17 (some 64) (v := ?_) rfl rfl (by kernel_rfl) (by kernel_rfl) (by kernel_rfl) (fun _ _ _ h => h) (Or.inl ⟨by rfl, ?_⟩) (by assumption) ?_
                rotate_left
                · intro w_ hSw_; (try dsimp only at hSw_); go_simp; (try with_reducible rfl)
                try simp only [Act.put, List.setIfInBounds_toArray, List.set_cons_zero, List.set_cons_succ]
                refine take_op 18 (some 65) (v := ?_) rfl rfl (by kernel_rfl) (by kernel_rfl) (by kernel_rfl) (fun _ _ _ h => h) (Or.inl ⟨by rfl, ?_⟩) (by assumption) ?_
                rotate_left
                · intro w_ hSw_; (try dsimp only at hSw_); go_simp; (try with_reducible rfl)
                try simp only [Act.put, List.setIfInBounds_toArray, List.set_cons_zero, List.set_cons_succ]
                refine take_op 19 (some 66) (v := ?_) rfl rfl (by kernel_rfl) (by kernel_rfl) (by kernel_rfl) (fun _ _ _ h => h) (Or.inl ⟨by rfl, ?_⟩) (by assumption) ?_
                rotate_left
                · intro w_ hSw_; (try dsimp only at hSw_); go_simp; (try with_reducible rfl)
                try simp only [Act.put, List.setIfInBounds_toArray, List.set_cons_zero, List.set_cons_succ]
                refine take_op 20 (some 67) rfl rfl (by kernel_rfl) (by kernel_rfl) (by kernel_rfl) (fun _ _ _ h => h) (Or.inr ⟨by rfl, rfl⟩) (by assumption) ?_
                try simp only [Act.put, List.setIfInBounds_toArray, List.set_cons_zero, List.set_cons_succ]
                refine take_op 21 (some 68) rfl rfl (by kernel_rfl) (by kernel_rfl) (by kernel_rfl) (fun _ _ _ h => h) (Or.inr ⟨by rfl, rfl⟩) (by assumption) ?_
                try simp only [Act.put, List.setIfInBounds_toArray, List.set_cons_zero, List.set_cons_succ]
                refine take_op 22 (some 69) rfl rfl (by kernel_rfl) (by kernel_rfl) (by kernel_rfl) (fun _ _ _ h => h) (Or.inr ⟨by rfl, rfl⟩) (by assumption) ?_
                try simp only [Act.put, List.setIfInBounds_toArray, List.set_cons_zero, List.set_cons_succ]
                refine take_op 23 (some 70) (v := ?_) rfl rfl (by kernel_rfl) (by kernel_rfl) (by kernel_rfl) (fun _ _ _ h => h) (Or.inl ⟨by rfl, ?_⟩) (by assumption) ?_
                rotate_left
                · intro w_ hSw_; (try dsimp only at hSw_); go_simp; (try with_reducible rfl)
                try simp only [Act.put, List.setIfInBounds_toArray, List.set_cons_zero, List.set_cons_succ]
                refine wpAnyH_done (by kernel_rfl) ?_ _
                go_wp2_with fail
                go_roundw
                case rel => exact ⟨i + 1, by omega, by go_num, by rw [hNone.out, ← HT.out], by rw [hNone.out]; exact HBEx.out, HBx.out⟩
                case measure => simp [intOf]; omega
              · have g5 : ¬ (2148483648 : Int) < (num : Int) := by omega
                have hJ : Hid (rHeadF m i = some ⟨i, s2, [], num + 1, n2, false⟩) := Lib.hid (by rw [hHd.out, if_neg (by rintro (h | h | h | h); cases h; exact h (HSE.out.trans HHD.out); cases h; exact hbig h)])
                refine take_op 16 (some 63) (v := ?_) rfl rfl (by kernel_rfl) (by kernel_rfl) (by kernel_rfl) (fun _ _ _ h => h) (Or.inl ⟨by rfl, ?_⟩) (by assumption) ?_
                rotate_left
                · intro w_ hSw_; (try dsimp only at hSw_); go_simp; (try with_reducible rfl)
                try simp only [Act.put, List.setIfInBounds_toArray, List.set_cons_zero, List.set_cons_succ]
                refine take_op 17 (some 64) (v := ?_) rfl rfl (by kernel_rfl) (by kernel_rfl) (by kernel_rfl) (fun _ _ _ h => h) (Or.inl ⟨by rfl, ?_⟩) (by assumption) ?_
                rotate_left
                · intro w_ hSw_; (try dsimp only at hSw_); go_simp; (try with_reducible rfl)
                try simp only [Act.put, List.setIfInBounds_toArray, List.set_cons_zero, List.set_cons_succ]
                refine take_op 18 (some 65) (v := ?_) rfl rfl (by kernel_rfl) (by kernel_rfl) (by kernel_rfl) (fun _ _ _ h => h) (Or.inl ⟨by rfl, ?_⟩) (by assumption) ?_
                rotate_left
                · intro w_ hSw_; (try dsimp only at hSw_); go_simp; (try with_reducible rfl)
                try simp only [Act.put, List.setIfInBounds_toArray, List.set_cons_zero, List.set_cons_succ]
                refine take_op 19 (some 66) (v := ?_) rfl rfl (by kernel_rfl) (by kernel_rfl) (by kernel_rfl) (fun _ _ _ h => h) (Or.inl ⟨by rfl, ?_⟩) (by assumption) ?_
                rotate_left
                · intro w_ hSw_; (try dsimp only at hSw_); go_simp; (try with_reducible rfl)
                try simp only [Act.put, List.setIfInBounds_toArray, List.set_cons_zero, List.set_cons_succ]
                by_cases hle : num ≤ t
                · have g6 : (num : Int) ≤ (t : Int) := by omega
                  have hNone : Hid (rBestF m (i + 1) = o) := Lib.hid (by
                    rw [rBest_succ, hJ.out, ← HO.out]
                    show (if num + 1 - 1 ≤ rTop o then o else _) = o
                    rw [if_pos (by rw [← HT.out]; omega)])
                  refine take_op 20 (some 67) (v := ?_) rfl rfl (by kernel_rfl) (by kernel_rfl) (by kernel_rfl) (fun _ _ _ h => h) (Or.inl ⟨by rfl, ?_⟩) (by assumption) ?_
                  rotate_left
                  · intro w_ hSw_; (try dsimp only at hSw_); go_simp; (try with_reducible rfl)
                  try simp only [Act.put, List.setIfInBounds_toArray, List.set_cons_zero, List.set_cons_succ]
                  refine take_op 21 (some 68) (v := ?_) rfl rfl (by kernel_rfl) (by kernel_rfl) (by kernel_rfl) (fun _ _ _ h => h) (Or.inl ⟨by rfl, ?_⟩) (by assumption) ?_
                  rotate_left
                  · intro w_ hSw_; (try dsimp only at hSw_); go_simp; (try with_reducible rfl)
                  try simp only [Act.put, List.setIfInBounds_toArray, List.set_cons_zero, List.set_cons_succ]
                  refine take_op 22 (some 69) (v := ?_) rfl rfl (by kernel_rfl) (by kernel_rfl) (by kernel_rfl) (fun _ _ _ h => h) (Or.inl ⟨by rfl, ?_⟩) (by assumption) ?_
                  rotate_left
                  · intro w_ hSw_; (try dsimp only at hSw_); go_simp; (try with_reducible rfl)
                  try simp only [Act.put, List.setIfInBounds_toArray, List.set_cons_zero, List.set_cons_succ]
                  refine take_op 23 (some 70) (v := ?_) rfl rfl (by kernel_rfl) (by kernel_rfl) (by kernel_rfl) (fun _ _ _ h => h) (Or.inl ⟨by rfl, ?_⟩) (by assumption) ?_
                  rotate_left
                  · intro w_ hSw_; (try dsimp only at hSw_); go_simp; (try with_reducible rfl)
                  try simp only [Act.put, List.setIfInBounds_toArray, List.set_cons_zero, List.set_cons_succ]
                  refine wpAnyH_done (by kernel_rfl) ?_ _
                  go_wp2_with fail
                  go_roundw
                  case rel => exact ⟨i + 1, by omega, by go_num, by rw [hNone.out, ← HT.out], by rw [hNone.out]; exact HBEx.out, HBx.out⟩
                  case measure => simp [intOf]; omega
                · have g6 : ¬ (num : Int) ≤ (t : Int) := by omega
                  have hNew : Hid (rBestF m (i + 1) = some ⟨i, s2, [], num + 1, n2, false⟩) := Lib.hid (by
                    rw [rBest_succ, hJ.out, ← HO.out]
                    show (if num + 1 - 1 ≤ rTop o then o else _) = _
                    rw [if_neg (by rw [← HT.out]; omega)])
                  refine take_op 20 (some 67) (v := ?_) rfl rfl (by kernel_rfl) (by kernel_rfl) (by kernel_rfl) (fun _ _ _ h => h) (Or.inl ⟨by rfl, ?_⟩) (by assumption) ?_
                  rotate_left
                  · intro w_ hSw_; (try dsimp only at hSw_); go_simp; (try with_reducible rfl)
                  try simp only [Act.put, List.setIfInBounds_toArray, List.set_cons_zero, List.set_cons_succ]
                  refine take_op 21 (some 68) (v := ?_) rfl rfl (by kernel_rfl) (by kernel_rfl) (by kernel_rfl) (fun _ _ _ h => h) (Or.inl ⟨by rfl, ?_⟩) (by assumption) ?_
                  rotate_left
                  · intro w_ hSw_; (try dsimp only at hSw_); go_simp; (try with_reducible rfl)
                  try simp only [Act.put, List.setIfInBounds_toArray, List.set_cons_zero, List.set_cons_succ]
                  refine take_op 22 (some 69) (v := ?_) rfl rfl (by kernel_rfl) (by kernel_rfl) (by kernel_rfl) (fun _ _ _ h => h) (Or.inl ⟨by rfl, ?_⟩) (by assumption) ?_
                  rotate_left
                  · intro w_ hSw_; (try dsimp only at hSw_); go_simp; (try with_reducible rfl)
                  try simp only [Act.put, List.setIfInBounds_toArray, List.set_cons_zero, List.set_cons_succ]
                  refine take_op 23 (some 70) (v := ?_) rfl rfl (by kernel_rfl) (by kernel_rfl) (by kernel_rfl) (fun _ _ _ h => h) (Or.inl ⟨by rfl, ?_⟩) (by assumption) ?_
                  rotate_left
                  · intro w_ hSw_; (try dsimp only at hSw_); go_simp; (try with_reducible rfl)
                  try simp only [Act.put, List.setIfInBounds_toArray, List.set_cons_zero, List.set_cons_succ]
                  refine wpAnyH_done (by kernel_rfl) ?_ _
                  have hpj := rHead_pos hJ.out
                  have hwfJ : JM.wf ⟨i, s2, [], num + 1, n2, false⟩ := ⟨by show i ≤ 1; omega, by show num + 1 < 4294967296; omega, by have h1 : n2 ≤ jsize m := hpj.2.2.2.2.2.1; have h2 := jsize_le hwf.out; show n2 ≤ 100000; omega, Nat.zero_le _⟩
                  have HWJ := Lib.hid hwfJ
                  have hcast : ((num + 1 : Nat) : Int) = (num : Int) + 1 := by omega
                  have HCA := Lib.hid hcast
                  clear hpj hwfJ hcast
                  go_wp2_with fail
                  refine ⟨⟨i + 1, by omega, by go_num, ?_, ?_, ?_⟩, by simp [intOf]; omega⟩
                  · rw [hNew.out]
                    show Value.int .u32 (num : Int) = Value.int .u32 ((num + 1 - 1 : Nat) : Int)
                    rw [Nat.add_sub_cancel]
                  · rw [hNew.out]
                    refine ⟨w8.heap.size, rfl, ⟨HWJ.out, ?_, ⟨rfl, .inl ⟨rfl, rfl⟩⟩⟩, HBx.out.size⟩
                    have := Blk.new w8 (rjRow rb (.slice none 0 0) ⟨i, s2, [], num + 1, n2, false⟩) 83
                    unfold rjRow at this ⊢
                    dsimp only at this ⊢
                    rw [HCA.out] at this ⊢
                    exact this
                  · exact HBx.out.trans ((alloc_below w8 _).mono HBx.out.size)
          · have hNone : Hid (rBestF m (i + 1) = o) := Lib.hid (hNo.out (by rw [hHd.out, if_pos (.inr (.inl (fun h => hsh (by rw [h, HHD.out]))))]))
            have hb1 : (s1.toList == hd.toList) = false := by simpa using hsh
            have hb2 : (s1.toList != hd.toList) = true := by simpa using hsh
            refine take_op 8 (some 55) (v := ?_) rfl rfl (by kernel_rfl) (by kernel_rfl) (by kernel_rfl) (fun _ _ _ h => h) (Or.inl ⟨by rfl, ?_⟩) (by assumption) ?_
            rotate_left
            · intro w_ hSw_; (try dsimp only at hSw_); go_simp; (try with_reducible rfl)
            try simp only [Act.put, List.setIfInBounds_toArray, List.set_cons_zero, List.set_cons_succ]
            refine take_op 9 (some 56) (v := ?_) rfl rfl (by kernel_rfl) (by kernel_rfl) (by kernel_rfl) (fun _ _ _ h => h) (Or.inl ⟨by rfl, ?_⟩) (by assumption) ?_
            rotate_left
            · intro w_ hSw_; (try dsimp only at hSw_); go_simp; (try with_reducible rfl)
            try simp only [Act.put, List.setIfInBounds_toArray, List.set_cons_zero, List.set_cons_succ]
            refine take_op 10 (some 57) (v := ?_) rfl rfl (by kernel_rfl) (by kernel_rfl) (by kernel_rfl) (fun _ _ _ h => h) (Or.inl ⟨by rfl, ?_⟩) (by assumption) ?_
            rotate_left
            · intro w_ hSw_; (try dsimp only at hSw_); go_simp; (try with_reducible rfl)
            try simp only [Act.put, List.setIfInBounds_toArray, List.set_cons_zero, List.set_cons_succ]
            refine take_op 11 (some 58) rfl rfl (by kernel_rfl) (by kernel_rfl) (by kernel_rfl) (fun _ _ _ h => h) (Or.inr ⟨by rfl, rfl⟩) (by assumption) ?_
            try simp only [Act.put, List.setIfInBounds_toArray, List.set_cons_zero, List.set_cons_succ]
            refine take_op 12 (some 59) rfl rfl (by kernel_rfl) (by kernel_rfl) (by kernel_rfl) (fun _ _ _ h => h) (Or.inr ⟨by rfl, rfl⟩) (by assumption) ?_
            try simp only [Act.put, List.setIfInBounds_toArray, List.set_cons_zero, List.set_cons_succ]
            refine take_op 13 (some 60) rfl rfl (by kernel_rfl) (by kernel_rfl) (by kernel_rfl) (fun _ _ _ h => h) (Or.inr ⟨by rfl, rfl⟩) (by assumption) ?_
            try simp only [Act.put, List.setIfInBounds_toArray, List.set_cons_zero, List.set_cons_succ]
            refine take_op 14 (some 61) (v := ?_) rfl rfl (by kernel_rfl) (by kernel_rfl) (by kernel_rfl) (fun _ _ _ h => h) (Or.inl ⟨by rfl, ?_⟩) (by assumption) ?_
            rotate_left
            · intro w_ hSw_; (try dsimp only at hSw_); go_simp; (try with_reducible rfl)
            try simp only [Act.put, List.setIfInBounds_toArray, List.set_cons_zero, List.set_cons_succ]
            refine take_op 15 (some 62) (v := ?_) rfl rfl (by kernel_rfl) (by kernel_rfl) (by kernel_rfl) (fun _ _ _ h => h) (Or.inl ⟨by rfl, ?_⟩) (by assumption) ?_
            rotate_left
            · intro w_ hSw_; (try dsimp only at hSw_); go_simp; (try with_reducible rfl)
            try simp only [Act.put, List.setIfInBounds_toArray, List.set_cons_zero, List.set_cons_succ]
            refine take_op 16 (some 63) rfl rfl (by kernel_rfl) (by kernel_rfl) (by kernel_rfl) (fun _ _ _ h => h) (Or.inr ⟨by rfl, rfl⟩) (by assumption) ?_
            try simp only [Act.put, List.setIfInBounds_toArray, List.set_cons_zero, List.set_cons_succ]
            refine take_op 17 (some 64) rfl rfl (by kernel_rfl) (by kernel_rfl) (by kernel_rfl) (fun _ _ _ h => h) (Or.inr ⟨by rfl, rfl⟩) (by assumption) ?_
            try simp only [Act.put, List.setIfInBounds_toArray, List.set_cons_zero, List.set_cons_succ]
            refine take_op 18 (some 65) (v := ?_) rfl rfl (by kernel_rfl) (by kernel_rfl) (by kernel_rfl) (fun _ _ _ h => h) (Or.inl ⟨by rfl, ?_⟩) (by assumption) ?_
            rotate_left
            · intro w_ hSw_; (try dsimp only at hSw_); go_simp; (try with_reducible rfl)
            try simp only [Act.put, List.setIfInBounds_toArray, List.set_cons_zero, List.set_cons_succ]
            refine take_op 19 (some 66) (v := ?_) rfl rfl (by kernel_rfl) (by kernel_rfl) (by kernel_rfl) (fun _ _ _ h => h) (Or.inl ⟨by rfl, ?_⟩) (by assumption) ?_
            rotate_left
            · intro w_ hSw_; (try dsimp only at hSw_); go_simp; (try with_reducible rfl)
            try simp only [Act.put, List.setIfInBounds_toArray, List.set_cons_zero, List.set_cons_succ]
            refine take_op 20 (some 67) rfl rfl (by kernel_rfl) (by kernel_rfl) (by kernel_rfl) (fun _ _ _ h => h) (Or.inr ⟨by rfl, rfl⟩) (by assumption) ?_
            try simp only [Act.put, List.setIfInBounds_toArray, List.set_cons_zero, List.set_cons_succ]
            refine take_op 21 (some 68) rfl rfl (by kernel_rfl) (by kernel_rfl) (by kernel_rfl) (fun _ _ _ h => h) (Or.inr ⟨by rfl, rfl⟩) (by assumption) ?_
            try simp only [Act.put, List.setIfInBounds_toArray, List.set_cons_zero, List.set_cons_succ]
            refine take_op 22 (some 69) rfl rfl (by kernel_rfl) (by kernel_rfl) (by kernel_rfl) (fun _ _ _ h => h) (Or.inr ⟨by rfl, rfl⟩) (by assumption) ?_
            try simp only [Act.put, List.setIfInBounds_toArray, List.set_cons_zero, List.set_cons_succ]
            refine take_op 23 (some 70) (v := ?_) rfl rfl (by kernel_rfl) (by kernel_rfl) (by kernel_rfl) (fun _ _ _ h => h) (Or.inl ⟨by rfl, ?_⟩) (by assumption) ?_
            rotate_left
            · intro w_ hSw_; (try dsimp only at hSw_); go_simp; (try with_reducible rfl)
            try simp only [Act.put, List.setIfInBounds_toArray, List.set_cons_zero, List.set_cons_succ]
            refine wpAnyH_done (by kernel_rfl) ?_ _
            go_wp2_with fail
            go_roundw
            case rel => exact ⟨i + 1, by omega, by go_num, by rw [hNone.out, ← HT.out], by rw [hNone.out]; exact HBEx.out, HBx.out⟩
            case measure => simp [intOf]; omega
      · have g1 : ¬ (i : Int) < 2 := by omega
        have hi2 : i = 2 := by omega
        subst hi2
        cases o with
        | none =>
          have hF : Hid (openF m = (none, 11)) := Lib.hid (by rw [hF0.out, ← HO.out])
          have hx := HBEST.out
          subst hx
          go_wp2_with fail
          go_ret2
          rw [hF.out]
          exact ⟨HB.out, rfl⟩
        | some j =>
          have hF : Hid (openF m = (some (rFullF m 5000 j), 0)) := Lib.hid (by rw [hF0.out, ← HO.out])
          obtain ⟨qb, hx, hrj, hqb⟩ := HBEST.out
          have HRJ := Lib.hid hrj
          subst hx
          have k4 : wr.cell? ⟨qb, 4, none⟩ = some (.int .i64 (j.area : Int)) := hrj.blk.cell 4
          have hxa := hrj.wf.area
          clear hrj
          go_wp2_with fail
          refine (rjSectors_any rb sb m HZ.out j.area hxa _ HDR.out).mono ?_
          rintro e w2 ⟨c2, rfl, hs2, hc2', hc3', hb2⟩
          have HB2 := Lib.hid (HB.out.trans (hb2.mono HB.out.size))
          have HRJ2 := Lib.hid (HRJ.out.grown hb2)
          obtain ⟨l, hl⟩ : ∃ l, l = secsM m (firstF m j.area) (jsize m) := ⟨_, rfl⟩
          have hll : l.length = z := by rw [hl, HZE.out]; exact secsM_len _ _ _
          have hls : ∀ y ∈ l, y.size = 256 := by rw [hl]; exact secsM_size hwf.out (first_room HZ.out hxa).2
          obtain ⟨f, hfe⟩ : ∃ f, f = firstF m j.area := ⟨_, rfl⟩
          rw [← hl, ← hfe, ← HZE.out] at hs2
          rw [← hfe, ← HZE.out]
          rw [← HZE.out] at hc2'
          have HS2 := Lib.hid hs2
          have HSF : Hid (∀ w', Below w.heap.size w w' → StrsAt w' (.slice (some ⟨sb, f, none⟩) z c2) l) := Lib.hid (fun w' h => by rw [hl, hfe, HZE.out]; exact (HD.out.grown h).strs _ _ _ (first_room HZ.out hxa).2 (Nat.pos_of_ne_zero HZ.out) (by rw [← HZE.out]; exact hc2'))
          have HL := Lib.hid hl
          have HLS := Lib.hid hls
          clear hb2 hs2 hl hls hfe
          have hjp : j.recs = [] ∧ j.used ≤ z ∧ j.next ≤ 2148483649 ∧ j.dead = false := by
            obtain ⟨a, _, ha⟩ := rBest_recs HO.out.symm
            have hp := rHead_pos ha
            rw [← HZE.out] at hp
            exact ⟨hp.2.1, hp.2.2.2.2.2.1, hp.2.2.2.1, hp.2.2.2.2.2.2⟩
          have HJP := Lib.hid hjp
          clear hjp
          go_wp2_with fail
          go_loopw [11] (fun x wr => ∃ (i : Nat) (jr : JM) (v : Value), i ≤ 5000 ∧ x = .int .i64 i ∧ RJ wr qb rb v jr ∧ (∀ k, v.ownBlock = some k → w.heap.size ≤ k ∧ k ≠ qb) ∧ Below w.heap.size w wr ∧ jr.area = j.area ∧ jr.base = j.base ∧ jr.dead = j.dead ∧
            recsF l 5000 j.next j.used [] = recsF l (5000 - i) jr.next jr.used jr.recs ∧ jr.used ≤ z ∧ jr.next ≤ 2148483649 + jr.used ∧ jr.recs.length ≤ jr.used) (fun x _ => 5000 - (intOf x).toNat)
          case atStart => exact ⟨0, j, .slice none 0 0, by omega, rfl, HRJ2.out, (fun k hk => by cases hk), HB2.out, rfl, rfl, rfl, by rw [HJP.out.1], HJP.out.2.1, by have := HJP.out.2.2.1; omega, by rw [HJP.out.1]; exact Nat.zero_le _⟩
          case round =>
            obtain ⟨i, jr, v, hi5, rfl, hrj, hvq, hB, ha1, ha2, ha3, hq, hu, hnx, hrl⟩ := hrel
            have HB3 := Lib.hid hB
            have HRJ3 := Lib.hid hrj
            have HQ := Lib.hid hq
            have HVQ := Lib.hid hvq
            have hfin : Hid (recsF l (5000 - i) jr.next jr.used jr.recs = (jr.recs, jr.next, jr.used) → openF m = (some jr, 0)) := Lib.hid (fun h => by
              rw [hF.out]
              have hx := HQ.out.trans h
              have : rFullF m 5000 j = jr := by
                unfold rFullF
                rw [← HL.out, hx]
                cases jr; cases j
                dsimp only at ha1 ha2 ha3 ⊢
                subst ha1 ha2 ha3
                rfl
              rw [this])
            clear hrj hB hq hvq
            by_cases hlt5 : i < 5000
            · have g7 : (i : Int) < 5000 := by omega
              have k5 : wr.cell? ⟨qb, 5, none⟩ = some (.int .i64 (jr.used : Int)) := HRJ3.out.blk.cell 5
              have k3 : wr.cell? ⟨qb, 3, none⟩ = some (.int .u32 (jr.next : Int)) := HRJ3.out.blk.cell 3
              have q1 : (jr.used : Int) ≤ (z : Int) := by omega
              have q2 : (z : Int) ≤ (c2 : Int) := by omega
              go_wp2_with fail
              refine wp_region_held_drew (S := fun w' => w'.cell? ⟨qb, 5, none⟩ = some (.int .i64 (jr.used : Int)) ∧ w'.cell? ⟨qb, 3, none⟩ = some (.int .u32 (jr.next : Int))) (by kernel_rfl) ⟨k5, k3⟩ (fun hHeld => ?_)
              refine take_op 0 (some 94) (v := ?_) rfl rfl (by kernel_rfl) (by kernel_rfl) (by kernel_rfl) (fun _ _ _ h => h) (Or.inl ⟨by rfl, ?_⟩) (by assumption) ?_
              rotate_left
              · intro w_ hSw_; (try dsimp only at hSw_); go_simp; (try with_reducible rfl)
              try simp only [Act.put, List.setIfInBounds_toArray, List.set_cons_zero, List.set_cons_succ]
              refine take_op 1 (some 95) (v := ?_) rfl rfl (by kernel_rfl) (by kernel_rfl) (by kernel_rfl) (fun _ _ _ h => h) (Or.inl ⟨by rfl, ?_⟩) (by assumption) ?_
              rotate_left
              · intro w_ hSw_; (try dsimp only at hSw_); go_simp; (try with_reducible rfl)
              try simp only [Act.put, List.setIfInBounds_toArray, List.set_cons_zero, List.set_cons_succ]
              refine take_op 2 (some 96) (v := ?_) rfl rfl (by kernel_rfl) (by kernel_rfl) (by kernel_rfl) (fun _ _ _ h => h) (Or.inl ⟨by rfl, ?_⟩) (by assumption) ?_
              rotate_left
              · intro w_ hSw_; (try dsimp only at hSw_); go_simp; (try with_reducible rfl)
              try simp only [Act.put, List.setIfInBounds_toArray, List.set_cons_zero, List.set_cons_succ]
              refine take_op 3 (some 97) (v := ?_) rfl rfl (by kernel_rfl) (by kernel_rfl) (by kernel_rfl) (fun _ _ _ h => h) (Or.inl ⟨by rfl, ?_⟩) (by assumption) ?_
              rotate_left
              · intro w_ hSw_; (try dsimp only at hSw_); go_simp; (try with_reducible rfl)
              try simp only [Act.put, List.setIfInBounds_toArray, List.set_cons_zero, List.set_cons_succ]
              refine take_op 4 (some 98) (v := ?_) rfl rfl (by kernel_rfl) (by kernel_rfl) (by kernel_rfl) (fun _ _ _ h => h) (Or.inl ⟨by rfl, ?_⟩) (by assumption) ?_
              rotate_left
              · intro w_ hSw_; (try dsimp only at hSw_); go_simp; (try with_reducible rfl)
              try simp only [Act.put, List.setIfInBounds_toArray, List.set_cons_zero, List.set_cons_succ]
              refine take_op 5 (some 99) (v := ?_) rfl rfl (by kernel_rfl) (by kernel_rfl) (by kernel_rfl) (fun _ _ _ h => h) (Or.inl ⟨by rfl, ?_⟩) (by assumption) ?_
              rotate_left
              · intro w_ hSw_; (try dsimp only at hSw_); go_simp; (try with_reducible rfl)
              try simp only [Act.put, List.setIfInBounds_toArray, List.set_cons_zero, List.set_cons_succ]
              refine take_op 6 (some 100) (v := ?_) rfl rfl (by kernel_rfl) (by kernel_rfl) (by kernel_rfl) (fun _ _ _ h => h) (Or.inl ⟨by rfl, ?_⟩) (by assumption) ?_
              rotate_left
              · intro w_ hSw_; (try dsimp only at hSw_); go_simp; (try with_reducible rfl)
              try simp only [Act.put, List.setIfInBounds_toArray, List.set_cons_zero, List.set_cons_succ]
              refine take_op 7 (some 101) (v := ?_) rfl rfl (by kernel_rfl) (by kernel_rfl) (by kernel_rfl) (fun _ _ _ h => h) (Or.inl ⟨by rfl, ?_⟩) (by assumption) ?_
              rotate_left
              · intro w_ hSw_; (try dsimp only at hSw_); go_simp; (try with_reducible rfl)
              try simp only [Act.put, List.setIfInBounds_toArray, List.set_cons_zero, List.set_cons_succ]
              refine take_op 8 (some 102) (v := ?_) rfl rfl (by kernel_rfl) (by kernel_rfl) (by kernel_rfl) (fun _ _ _ h => h) (Or.inl ⟨by rfl, ?_⟩) (by assumption) ?_
              rotate_left
              · intro w_ hSw_; (try dsimp only at hSw_); go_simp; (try with_reducible rfl)
              try simp only [Act.put, List.setIfInBounds_toArray, List.set_cons_zero, List.set_cons_succ]
              refine take_op 9 (some 103) (v := ?_) rfl rfl (by kernel_rfl) (by kernel_rfl) (by kernel_rfl) (fun _ _ _ h => h) (Or.inl ⟨by rfl, ?_⟩) (by assumption) ?_
              rotate_left
              · intro w_ hSw_; (try dsimp only at hSw_); go_simp; (try with_reducible rfl)
              try simp only [Act.put, List.setIfInBounds_toArray, List.set_cons_zero, List.set_cons_succ]
              have hS2w := Lib.hid (HSF.out wr HB3.out)
              refine wpAnyH_tab (fun w' => Below wr.heap.size wr w' ∧ w'.cell? ⟨qb, 5, none⟩ = some (.int .i64 (jr.used : Int)) ∧ w'.cell? ⟨qb, 3, none⟩ = some (.int .u32 (jr.next : Int))) [10, 11] 1 [(10, 104, .val (.agg #[.string (readF (l.drop jr.used) jr.next).1, .int .i64 ((readF (l.drop jr.used) jr.next).2.1 : Int), .bool (readF (l.drop jr.used) jr.next).2.2])), (11, 12, .newp wr.heap.size #[.string ⟨#[]⟩, .int .i64 0, .bool false] 88)] rfl rfl (by kernel_rfl) (fun _ h => h.2) (fun w1 w2 h hb => ⟨h.1.trans (hb.mono h.1.size), (hb.cell (p := ⟨qb, 5, none⟩) (Nat.lt_of_lt_of_le HRJ3.out.blk.lt h.1.size)).trans h.2.1, (hb.cell (p := ⟨qb, 3, none⟩) (Nat.lt_of_lt_of_le HRJ3.out.blk.lt h.1.size)).trans h.2.2⟩) ⟨(Below.refl _ wr).drew, k5, k3⟩ ?_ ?_
              · skip
                refine InvSteps.cons rfl (fun xs_ wv hSv hr_ A_ hA_ K_ hK_ => ?_) ?_
                · skip
                  simp only [putAll, List.foldl, List.map, Act.put, List.setIfInBounds_toArray, List.set_cons_zero, List.set_cons_succ] at hA_
                  subst hA_
                  go_simp
                  refine (rfRead_strs _ (l.drop jr.used) jr.next (by have := HZE.out; omega) (by rw [List.length_drop]; omega) (fun y hy => by rw [HLS.out y (List.mem_of_mem_drop hy)]; omega) _ (hS2w.out.below hSv.1 |>.dropped hu)).mono ?_
                  rintro e w4 ⟨rfl, hb4⟩
                  exact hK_.out _ _ _ rfl rfl hb4
                refine InvSteps.cons rfl (fun xs_ wv hSv hr_ A_ hA_ K_ hK_ => ?_) ?_
                · skip
                  simp only [putAll, List.foldl, List.map, Act.put, List.setIfInBounds_toArray, List.set_cons_zero, List.set_cons_succ] at hA_
                  subst hA_
                  go_simp
                  exact hK_.out _ _ _ rfl ⟨_, rfl, hSv.1.size, Blk.new _ _ _⟩ ((Below.refl _ _).alloc (Nat.le_refl _) _)
                exact InvSteps.nil
              · intro xs_ wv hSv hr_ A_ hA_
                have e10 : xs_ 10 = _ := hr_ 10
                obtain ⟨b11, e11, N11, B11⟩ := hr_ 11
                simp only [e10, e11, putAll, List.foldl, List.map, Act.put, List.setIfInBounds_toArray, List.set_cons_zero, List.set_cons_succ] at hA_
                subst hA_
                clear e10 e11 hr_
                obtain ⟨r3, hr3⟩ : ∃ r, r = readF (l.drop jr.used) jr.next := ⟨_, rfl⟩
                rw [← hr3]
                have HR3 := Lib.hid hr3
                obtain ⟨s3, n3, ok3⟩ := r3
                dsimp only
                have HSV := Lib.hid hSv
                have hHeld := hSv.2
                clear hr3 hS2w
                refine go_op 12 rfl (by kernel_rfl) (fun K_ hK_ => ?_)
                refine step_store_row rfl 88 (.tmp 12) (.tmp 104) rfl none rfl b11 #[.string s3, .int .i64 (n3 : Int), .bool ok3] rfl rfl _ _ B11 (by kernel_rfl) rfl (by kernel_rfl) ?_
                have hbw : Below wr.heap.size wr (wv.setRow b11 #[.string s3, .int .i64 (n3 : Int), .bool ok3]) := below_setRow HSV.out.1 N11 _
                have hblk : Blk (wv.setRow b11 #[.string s3, .int .i64 (n3 : Int), .bool ok3]) b11 #[.string s3, .int .i64 (n3 : Int), .bool ok3] 88 := B11.setRow _
                simp only [Act.put, List.setIfInBounds_toArray, List.set_cons_zero, List.set_cons_succ]
                refine hK_.out _ _ ⟨(HRJ3.out.grown hbw).blk.cell 5, (HRJ3.out.grown hbw).blk.cell 3⟩ (fun hHeld_ => ?_)
                clear hHeld hSv HSV hHeld_
                generalize wv.setRow b11 #[.string s3, .int .i64 (n3 : Int), .bool ok3] = w5 at hbw hblk ⊢
                generalize (if c2 = jr.used then some (⟨sb, f, none⟩ : Addr) else some ⟨sb, f + jr.used, none⟩) = ad9
                refine wpAnyH_done (by kernel_rfl) ?_ _
                have HB5 := Lib.hid (HB3.out.trans (hbw.mono HB3.out.size))
                have HRJ5 := Lib.hid (HRJ3.out.grown hbw)
                have HK5 := Lib.hid hblk
                have hneb : Hid (qb ≠ b11 ∧ ∀ k, v.ownBlock = some k → k ≠ b11) := Lib.hid ⟨by have := HRJ3.out.blk.lt; omega, fun k hk => by have := own_lt2 HRJ3.out.row k hk; omega⟩
                have a2 : w5.cell? ⟨b11, 2, none⟩ = some (.bool ok3) := hblk.cell 2
                clear hblk hbw B11
                cases ok3
                · have hstop := recsF_stop l (5000 - i) jr.next jr.used jr.recs (by rintro ⟨_, h⟩; rw [← HR3.out] at h; cases h)
                  have hF2 := Lib.hid (hfin.out hstop)
                  clear hstop k5 k3 q1 q2
                  go_wp2_with fail
                  go_ret2
                  rw [hF2.out]
                  exact ⟨HB5.out, qb, v, rfl, HRJ5.out, hqb, HVQ.out⟩
                · have hok : (readF (l.drop jr.used) jr.next).2.2 = true := by rw [← HR3.out]
                  have hro := readF_ok hok
                  rw [← HR3.out, List.length_drop, hll] at hro
                  dsimp only at hro
                  have hst : Hid (recsF l (5000 - i) jr.next jr.used jr.recs = recsF l (5000 - (i + 1)) (jr.next + 1) (jr.used + n3) (jr.recs ++ [s3])) := Lib.hid (by
                    rw [show 5000 - i = (5000 - (i + 1)) + 1 by omega, recsF.eq_2, if_pos ⟨by rw [hll]; omega, hok⟩, ← HR3.out])
                  have hn3 : 1 ≤ n3 := hro.1
                  have hn3z : jr.used + n3 ≤ z := by have := hro.2.1; omega
                  have E5 : Hid (IntKind.i64.wrap ((jr.used : Int) + (n3 : Int)) = ((jr.used + n3 : Nat) : Int)) := Lib.hid (by rw [IntKind.wrap_i64]; omega)
                  have E3 : Hid ((jr.next : Int) + 1 = ((jr.next + 1 : Nat) : Int)) := Lib.hid (by omega)
                  have hwfn : Hid (JM.wf { jr with recs := jr.recs ++ [s3], next := jr.next + 1, used := jr.used + n3 }) := Lib.hid (wf_more HRJ3.out.wf s3 n3 (by omega) (by omega) (by omega))
                  have F9 : Hid (jr.used + n3 ≤ z ∧ jr.next + 1 ≤ 2148483649 + (jr.used + n3) ∧ (jr.recs ++ [s3]).length ≤ jr.used + n3) := Lib.hid ⟨hn3z, by omega, by rw [List.length_append, List.length_singleton]; omega⟩
                  have hrc8 : jr.recs.length + 1 ≤ 8796093022208 := by omega
                  have F6 : Hid (i + 1 ≤ 5000) := Lib.hid (by omega)
                  have F7 : Hid (5000 - (i + 1) < 5000 - i) := Lib.hid (by omega)
                  clear k5 k3 q1 q2 hok hro hn3 hn3z
                  have x2 : w5.cell? ⟨qb, 2, none⟩ = some v := HRJ5.out.blk.cell 2
                  have a0 : w5.cell? ⟨b11, 0, none⟩ = some (.string s3) := HK5.out.cell 0
                  go_wp2_with fail
                  refine wp_region_held_drew (S := fun w' => w'.cell? ⟨b11, 0, none⟩ = some (.string s3)) (by kernel_rfl) a0 (fun hHeld => ?_)
                  refine take_op 0 (some 108) (v := ?_) rfl rfl (by kernel_rfl) (by kernel_rfl) (by kernel_rfl) (fun _ _ _ h => h) (Or.inl ⟨by rfl, ?_⟩) (by assumption) ?_
                  rotate_left
                  · intro w_ hSw_; (try dsimp only at hSw_); go_simp; (try with_reducible rfl)
                  try simp only [Act.put, List.setIfInBounds_toArray, List.set_cons_zero, List.set_cons_succ]
                  refine take_op 1 (some 109) (v := ?_) rfl rfl (by kernel_rfl) (by kernel_rfl) (by kernel_rfl) (fun _ _ _ h => h) (Or.inl ⟨by rfl, ?_⟩) (by assumption) ?_
                  rotate_left
                  · intro w_ hSw_; (try dsimp only at hSw_); go_simp; (try with_reducible rfl)
                  try simp only [Act.put, List.setIfInBounds_toArray, List.set_cons_zero, List.set_cons_succ]
                  refine take_op 2 (some 110) (v := ?_) rfl rfl (by kernel_rfl) (by kernel_rfl) (by kernel_rfl) (fun _ _ _ h => h) (Or.inl ⟨by rfl, ?_⟩) (by assumption) ?_
                  rotate_left
                  · intro w_ hSw_; (try dsimp only at hSw_); go_simp; (try with_reducible rfl)
                  try simp only [Act.put, List.setIfInBounds_toArray, List.set_cons_zero, List.set_cons_succ]
                  refine take_op 3 (some 111) (v := ?_) rfl rfl (by kernel_rfl) (by kernel_rfl) (by kernel_rfl) (fun _ _ _ h => h) (Or.inl ⟨by rfl, ?_⟩) (by assumption) ?_
                  rotate_left
                  · intro w_ hSw_; (try dsimp only at hSw_); go_simp; (try with_reducible rfl)
                  try simp only [Act.put, List.setIfInBounds_toArray, List.set_cons_zero, List.set_cons_succ]
                  refine take_op 5 (some 113) (v := ?_) rfl rfl (by kernel_rfl) (by kernel_rfl) (by kernel_rfl) (fun _ _ _ h => h) (Or.inl ⟨by rfl, ?_⟩) (by assumption) ?_
                  rotate_left
                  · intro w_ hSw_; (try dsimp only at hSw_); go_simp; (try with_reducible rfl)
                  try simp only [Act.put, List.setIfInBounds_toArray, List.set_cons_zero, List.set_cons_succ]
                  refine take_op 6 (some 114) (v := ?_) rfl rfl (by kernel_rfl) (by kernel_rfl) (by kernel_rfl) (fun _ _ _ h => h) (Or.inl ⟨by rfl, ?_⟩) (by assumption) ?_
                  rotate_left
                  · intro w_ hSw_; (try dsimp only at hSw_); go_simp; (try with_reducible rfl)
                  try simp only [Act.put, List.setIfInBounds_toArray, List.set_cons_zero, List.set_cons_succ]
                  refine wpAnyH_tab (fun w' => Below w5.heap.size w5 w' ∧ w'.cell? ⟨b11, 0, none⟩ = some (.string s3) ∧ w'.cell? ⟨qb, 2, none⟩ = some v) [4, 7] 4 [(4, 112, .val v), (7, 115, .newr w5.heap.size #[.string s3] 9)] rfl rfl (by kernel_rfl) (fun _ h => h.2.1) (fun w1 w2 h hb => ⟨h.1.trans (hb.mono h.1.size), (hb.cell (p := ⟨b11, 0, none⟩) (Nat.lt_of_lt_of_le HK5.out.lt h.1.size)).trans h.2.1, (hb.cell (p := ⟨qb, 2, none⟩) (Nat.lt_of_lt_of_le HRJ5.out.blk.lt h.1.size)).trans h.2.2⟩) ⟨(Below.refl _ w5).drew, a0, x2⟩ ?_ ?_
                  · skip
                    refine InvSteps.cons rfl (fun xs_ wv hSv hr_ A_ hA_ K_ hK_ => ?_) ?_
                    · skip
                      simp only [putAll, List.foldl, List.map, Act.put, List.setIfInBounds_toArray, List.set_cons_zero, List.set_cons_succ] at hA_
                      subst hA_
                      have hx2 := hSv.2.2
                      go_simp
                      exact hK_.out _ _ _ rfl rfl (Below.refl _ _)
                    refine InvSteps.cons rfl (fun xs_ wv hSv hr_ A_ hA_ K_ hK_ => ?_) ?_
                    · skip
                      simp only [putAll, List.foldl, List.map, Act.put, List.setIfInBounds_toArray, List.set_cons_zero, List.set_cons_succ] at hA_
                      subst hA_
                      go_simp
                      exact hK_.out _ _ _ rfl ⟨_, rfl, hSv.1.size, Blk.new _ _ _⟩ ((Below.refl _ _).alloc (Nat.le_refl _) _)
                    exact InvSteps.nil
                  intro xs_ wx hSv hr_ A_ hA_
                  have e4 : xs_ 4 = _ := hr_ 4
                  obtain ⟨b7, e7, N7, B7⟩ := hr_ 7
                  simp only [e4, e7, putAll, List.foldl, List.map, Act.put, List.setIfInBounds_toArray, List.set_cons_zero, List.set_cons_succ] at hA_
                  subst hA_
                  clear e4 e7 hr_
                  have HSV := Lib.hid hSv
                  have hbx := hSv.1
                  have hHeld := hSv.2.1
                  have c7 := B7.cell 0
                  have HOW := Lib.hid (owns_below HRJ5.out.row hbx (Nat.le_refl _))
                  have HQX := Lib.hid (HRJ5.out.blk.below hbx HRJ5.out.blk.lt)
                  have hl7 := B7.lt
                  clear hSv x2 a0
                  refine go_op 8 rfl (by kernel_rfl) (fun K_ hK_ => ?_)
                  refine step_appStrs (some 116) rfl rfl rfl 0 v jr.recs.length jr.recs [s3] (some ⟨b7, 0, none⟩) 1 1 rfl HOW.out (fun _ => ⟨b7, 0, rfl, hl7, fun j y hj => by
                    cases j with
                    | zero => obtain rfl := Option.some.inj hj; exact c7
                    | succ j => simp at hj⟩) hrc8 (Nat.zero_le _) rfl rfl ?_
                  intro v9 w6 ho6 hg6 hv6
                  obtain ⟨g9, cap9, hv10⟩ := own_slice ho6
                  subst hv10
                  have hgo : Only (fun k => v.ownBlock = some k) wx w6 := Only.of_grownBy hg6 (fun k hk => hk)
                  have hblk6 : Blk w6 qb (rjRow rb v jr) 83 := hgo.blk HQX.out (fun h => (HVQ.out qb h).2 rfl)
                  have hb6 : Blk w6 b11 #[.string s3, .int .i64 (n3 : Int), .bool true] 88 := hgo.blk (HK5.out.below hbx HK5.out.lt) (fun h => hneb.out.2 _ h rfl)
                  have hB6 : Below w.heap.size w w6 := (HB5.out.trans (hbx.mono HB5.out.size)).trans (below_grown hg6 (Nat.le_trans HB5.out.size hbx.size) (fun k hk => (HVQ.out k hk).1))
                  have f2 := hblk6.free 2
                  have d2 : w6.cell? ⟨qb, 2, none⟩ = some v := hblk6.cell 2
                  have HB6 := Lib.hid hB6
                  have HO6 := Lib.hid ho6
                  have HV6 : Hid (∀ k, (some g9 = some k) → w.heap.size ≤ k ∧ k ≠ qb) := Lib.hid (fun k hk => by
                    have hk := Option.some.inj hk
                    rcases hv6 with h | h
                    · exact HVQ.out _ (by rw [← h, ← hk]; rfl)
                    · have e : g9 = wx.heap.size := by simpa [Value.ownBlock] using h
                      have h1 := HQX.out.lt
                      have h2 := HB5.out.size
                      have h3 := hbx.size
                      omega)
                  have HK6 := Lib.hid hb6
                  have HQ6 := Lib.hid hblk6
                  simp only [Act.put, List.setIfInBounds_toArray, List.set_cons_zero, List.set_cons_succ]
                  refine hK_.out _ _ (hb6.cell 0) (fun hHeld_ => ?_)
                  clear hHeld ho6 hg6 hv6 hgo hblk6 hb6 hB6 hbx B7 c7 hl7 HSV
                  refine take_op 9 (some 117) (v := ?_) rfl rfl (by kernel_rfl) (by kernel_rfl) (by kernel_rfl) (fun _ _ _ h => h) (Or.inl ⟨by rfl, ?_⟩) (by assumption) ?_
                  rotate_left
                  · intro w_ hSw_; (try dsimp only at hSw_); go_simp; (try with_reducible rfl)
                  try simp only [Act.put, List.setIfInBounds_toArray, List.set_cons_zero, List.set_cons_succ]
                  refine take_op 10 (some 118) (v := ?_) rfl rfl (by kernel_rfl) (by kernel_rfl) (by kernel_rfl) (fun _ _ _ h => h) (Or.inl ⟨by rfl, ?_⟩) (by assumption) ?_
                  rotate_left
                  · intro w_ hSw_; (try dsimp only at hSw_); go_simp; (try with_reducible rfl)
                  try simp only [Act.put, List.setIfInBounds_toArray, List.set_cons_zero, List.set_cons_succ]
                  refine go_op 11 rfl (by kernel_rfl) (fun K_ hK_ => ?_)
                  go_simp
                  have ho7 : Only (fun k => k = qb) w6 (w6.setCell ⟨qb, 2, none⟩ (.slice (some ⟨g9, 0, none⟩) (jr.recs.length + 1) cap9)) := (Only.refl (fun k => k = qb) w6).setCell (p := ⟨qb, 2, none⟩) (fun _ => rfl) _
                  have hq7 := HQ6.out.setCell 2 (.slice (some ⟨g9, 0, none⟩) (jr.recs.length + 1) cap9)
                  have hk7 := ho7.blk HK6.out (fun h => hneb.out.1 h.symm)
                  refine hK_.out _ _ (hk7.cell 0) (fun hHeld_ => ?_)
                  generalize w6.setCell ⟨qb, 2, none⟩ (.slice (some ⟨g9, 0, none⟩) (jr.recs.length + 1) cap9) = w7 at ho7 hq7 hk7 ⊢
                  refine wpAnyH_done (by kernel_rfl) ?_ _
                  clear hHeld_
                  have x5 : w7.cell? ⟨qb, 5, none⟩ = some (.int .i64 (jr.used : Int)) := hq7.cell 5
                  have y1 : w7.cell? ⟨b11, 1, none⟩ = some (.int .i64 (n3 : Int)) := hk7.cell 1
                  have f5 := hq7.free 5
                  have HO7 := Lib.hid ho7
                  have HQ7 := Lib.hid hq7
                  have HK7 := Lib.hid hk7
                  clear ho7 hq7 hk7 f2 d2
                  go_wp2_with fail
                  refine wp_region_held_drew (S := fun w' => w'.cell? ⟨b11, 1, none⟩ = some (.int .i64 (n3 : Int))) (by kernel_rfl) y1 (fun hHeld => ?_)
                  refine take_op 0 (some 119) (v := ?_) rfl rfl (by kernel_rfl) (by kernel_rfl) (by kernel_rfl) (fun _ _ _ h => h) (Or.inl ⟨by rfl, ?_⟩) (by assumption) ?_
                  rotate_left
                  · intro w_ hSw_; (try dsimp only at hSw_); go_simp; (try with_reducible rfl)
                  try simp only [Act.put, List.setIfInBounds_toArray, List.set_cons_zero, List.set_cons_succ]
                  refine take_op 1 (some 120) (v := ?_) rfl rfl (by kernel_rfl) (by kernel_rfl) (by kernel_rfl) (fun _ _ _ h => h) (Or.inl ⟨by rfl, ?_⟩) (by assumption) ?_
                  rotate_left
                  · intro w_ hSw_; (try dsimp only at hSw_); go_simp; (try with_reducible rfl)
                  try simp only [Act.put, List.setIfInBounds_toArray, List.set_cons_zero, List.set_cons_succ]
                  refine take_op 2 (some 121) (v := ?_) rfl rfl (by kernel_rfl) (by kernel_rfl) (by kernel_rfl) (fun _ _ _ h => h) (Or.inl ⟨by rfl, ?_⟩) (by assumption) ?_
                  rotate_left
                  · intro w_ hSw_; (try dsimp only at hSw_); go_simp; (try with_reducible rfl)
                  try simp only [Act.put, List.setIfInBounds_toArray, List.set_cons_zero, List.set_cons_succ]
                  refine take_op 4 (some 123) (v := ?_) rfl rfl (by kernel_rfl) (by kernel_rfl) (by kernel_rfl) (fun _ _ _ h => h) (Or.inl ⟨by rfl, ?_⟩) (by assumption) ?_
                  rotate_left
                  · intro w_ hSw_; (try dsimp only at hSw_); go_simp; (try with_reducible rfl)
                  try simp only [Act.put, List.setIfInBounds_toArray, List.set_cons_zero, List.set_cons_succ]
                  refine take_op 5 (some 124) (v := ?_) rfl rfl (by kernel_rfl) (by kernel_rfl) (by kernel_rfl) (fun _ _ _ h => h) (Or.inl ⟨by rfl, ?_⟩) (by assumption) ?_
                  rotate_left
                  · intro w_ hSw_; (try dsimp only at hSw_); go_simp; (try with_reducible rfl)
                  try simp only [Act.put, List.setIfInBounds_toArray, List.set_cons_zero, List.set_cons_succ]
                  refine go_op 3 rfl (by kernel_rfl) (fun K_ hK_ => ?_)
                  go_simp
                  refine hK_.out _ _ hHeld (fun hHeld_ => ?_)
                  refine take_op 6 (some 125) (v := ?_) rfl rfl (by kernel_rfl) (by kernel_rfl) (by kernel_rfl) (fun _ _ _ h => h) (Or.inl ⟨by rfl, ?_⟩) (by assumption) ?_
                  rotate_left
                  · intro w_ hSw_; (try dsimp only at hSw_); go_simp; (try with_reducible rfl)
                  try simp only [Act.put, List.setIfInBounds_toArray, List.set_cons_zero, List.set_cons_succ]
                  refine take_op 7 (some 126) (v := ?_) rfl rfl (by kernel_rfl) (by kernel_rfl) (by kernel_rfl) (fun _ _ _ h => h) (Or.inl ⟨by rfl, ?_⟩) (by assumption) ?_
                  rotate_left
                  · intro w_ hSw_; (try dsimp only at hSw_); go_simp; (try with_reducible rfl)
                  try simp only [Act.put, List.setIfInBounds_toArray, List.set_cons_zero, List.set_cons_succ]
                  refine take_op 8 (some 127) (v := ?_) rfl rfl (by kernel_rfl) (by kernel_rfl) (by kernel_rfl) (fun _ _ _ h => h) (Or.inl ⟨by rfl, ?_⟩) (by assumption) ?_
                  rotate_left
                  · intro w_ hSw_; (try dsimp only at hSw_); go_simp; (try with_reducible rfl)
                  try simp only [Act.put, List.setIfInBounds_toArray, List.set_cons_zero, List.set_cons_succ]
                  refine go_op 9 rfl (by kernel_rfl) (fun K_ hK_ => ?_)
                  go_simp
                  have ho8 : Only (fun k => k = qb) w7 (w7.setCell ⟨qb, 5, none⟩ (.int .i64 ((jr.used + n3 : Nat) : Int))) := (Only.refl (fun k => k = qb) w7).setCell (p := ⟨qb, 5, none⟩) (fun _ => rfl) _
                  have hq8 := HQ7.out.setCell 5 (.int .i64 ((jr.used + n3 : Nat) : Int))
                  have hk8 := ho8.blk HK7.out (fun h => hneb.out.1 h.symm)
                  rw [E5.out]
                  refine hK_.out _ _ (hk8.cell 1) (fun hHeld_ => ?_)
                  generalize w7.setCell ⟨qb, 5, none⟩ (.int .i64 ((jr.used + n3 : Nat) : Int)) = w8 at ho8 hq8 hk8 ⊢
                  refine wpAnyH_done (by kernel_rfl) ?_ _
                  clear hHeld_ hHeld x5 y1 f5
                  have x3 : w8.cell? ⟨qb, 3, none⟩ = some (.int .u32 (jr.next : Int)) := hq8.cell 3
                  have f3 := hq8.free 3
                  have HO8 := Lib.hid ho8
                  have HQ8 := Lib.hid hq8
                  clear ho8 hq8 hk8
                  go_wp2_with fail
                  go_roundw
                  case rel =>
                    rw [E3.out]
                    have ho9 : Only (fun k => k = qb) w8.drew (w8.drew.setCell ⟨qb, 3, none⟩ (.int .u32 ((jr.next + 1 : Nat) : Int))) := (Only.refl (fun k => k = qb) w8.drew).setCell (p := ⟨qb, 3, none⟩) (fun _ => rfl) _
                    have hq9 : Blk (w8.drew.setCell ⟨qb, 3, none⟩ (.int .u32 ((jr.next + 1 : Nat) : Int))) qb _ _ := HQ8.out.drew.setCell 3 (.int .u32 ((jr.next + 1 : Nat) : Int))
                    have ho69 := (HO7.out.trans (HO8.out.drew)).trans ho9
                    have hqw : w.heap.size ≤ qb := hqb
                    have hb9 := HB6.out.trans (ho69.below HB6.out.size (fun k hk e => by omega))
                    refine ⟨i + 1, { jr with recs := jr.recs ++ [s3], next := jr.next + 1, used := jr.used + n3 }, .slice (some ⟨g9, 0, none⟩) (jr.recs.length + 1) cap9, F6.out, by go_num, ⟨hwfn.out, hq9, ?_⟩, fun k hk => HV6.out k hk, hb9, ha1, ha2, ha3, HQ.out.trans hst.out, F9.out.1, F9.out.2.1, F9.out.2.2⟩
                    rw [show (jr.recs ++ [s3]).length = jr.recs.length + 1 by rw [List.length_append]; rfl]
                    exact owns_only HO6.out ho69 (fun k hk e => (HV6.out k hk).2 e)
                  case measure => simp [intOf]; omega
            · have g7 : ¬ (i : Int) < 5000 := by omega
              have hF2 : Hid (openF m = (some jr, 0)) := Lib.hid (hfin.out (by rw [show 5000 - i = 0 by omega]; rfl))
              go_wp2_with fail
              go_ret2
              rw [hF2.out]
              exact ⟨HB3.out, qb, v, rfl, HRJ3.out, hqb, HVQ.out⟩
  · rw [hde] at d1
    have hF : Hid (openF m = (none, 74)) := Lib.hid (by unfold openF; rw [if_neg HZ.out, hde]; rfl)
    clear hde
    go_wp2_with fail
    go_ret2
    rw [hF.out]
    exact ⟨HB1.out, rfl⟩
end Go.Proofs.YtcakellhellddaaGreatDoor
