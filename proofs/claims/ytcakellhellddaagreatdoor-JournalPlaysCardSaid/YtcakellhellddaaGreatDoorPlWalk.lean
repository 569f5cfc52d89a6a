import Derived.Test.YtcakellhellddaaGreatDoorRjOpen
import Derived.Test.YtcakellhellddaaGreatDoorJoWakes
import Derived.Test.YtcakellhellddaaGreatDoorDiskSame
import Derived.Test.YtcakellhellddaaGreatDoorTexts
import Derived.Test.YtcakellhellddaaGreatDoorKeep2
set_option linter.unusedSimpArgs false
set_option linter.unusedVariables false
namespace Go.Proofs.YtcakellhellddaaGreatDoor
open Go.RowKit
/-! The journal and the reference's, step by step over one model of the disk. -/
/-- The numbers of a journal that fit one another. -/
def fine (m : DM) (j : JM) : Prop := 0 < j.next ∧ j.used ≤ jsize m ∧ j.recs.length ≤ j.used ∧ jsize m ≠ 0
theorem fine.len {m m' : DM} {j : JM} (h : fine m j) (hl : m'.S.length = m.S.length) : fine m' j := by
  unfold fine at h ⊢
  rw [same_size hl]
  exact h
theorem beginF_len (m : DM) (area num : Nat) (base : ByteArray) : (beginF m area num base).1.S.length = m.S.length := by
  unfold beginF
  split
  · exact writeF_len _ _ _ _
  · rw [writeF_len, writeF_len]
theorem appendF_len (m : DM) (j : JM) (s : ByteArray) : (appendF m j s).1.S.length = m.S.length := by
  unfold appendF
  split
  · rfl
  · split <;> exact writeF_len _ _ _ _
theorem saveF_len (m : DM) (j : JM) (s : ByteArray) : (saveF m j s).1.S.length = m.S.length := by
  unfold saveF
  split
  · rfl
  · split <;> exact beginF_len _ _ _ _
theorem formatF_len (m : DM) (s : ByteArray) : (formatF m s).1.S.length = m.S.length := by
  unfold formatF
  split
  · rfl
  · split
    · rfl
    · split
      · rfl
      · split
        · rfl
        · split <;> exact beginF_len _ _ _ _
theorem fine.append {m : DM} {j : JM} (h : fine m j) (s : ByteArray) : fine (appendF m j s).1 (appendF m j s).2.1 := by
  have hl := appendF_len m j s
  by_cases hm : (j.may s ((jsize m : Int) - (j.used : Int))).2 = 0
  · obtain ⟨_, _, hr, _, _⟩ := may_ok hm
    have hp := sizeN_pos s.size
    obtain ⟨h1, h2, h3, h4⟩ := h
    by_cases hw : (writeF m (firstF m j.area + j.used : Nat) j.next s).2 = 0
    · refine fine.len (m := m) ?_ hl
      have : (appendF m j s).2.1 = { j with recs := j.recs ++ [s], next := j.next + 1, used := j.used + sizeN s.size } := by
        unfold appendF; rw [if_neg (by rw [hm]; simp), if_neg (by rw [hw]; simp)]
      rw [this]
      refine ⟨by show 0 < j.next + 1; omega, by show j.used + sizeN s.size ≤ jsize m; omega, ?_, h4⟩
      show (j.recs ++ [s]).length ≤ j.used + sizeN s.size
      rw [List.length_append, List.length_singleton]; omega
    · refine fine.len (m := m) ?_ hl
      have : (appendF m j s).2.1 = { j with dead := true } := by
        unfold appendF; rw [if_neg (by rw [hm]; simp), if_pos hw]
      rw [this]
      exact ⟨h1, h2, h3, h4⟩
  · refine fine.len (m := m) ?_ hl
    have : (appendF m j s).2.1 = j := by unfold appendF; rw [if_pos hm]
    rw [this]; exact h
theorem fine.save {m : DM} {j : JM} (h : fine m j) (s : ByteArray) : fine (saveF m j s).1 (saveF m j s).2.1 := by
  have hl := saveF_len m j s
  by_cases hm : (j.may s (jsize m : Int)).2 = 0
  · obtain ⟨_, _, hr, _, _⟩ := may_ok hm
    obtain ⟨h1, h2, h3, h4⟩ := h
    by_cases hw : (beginF m (1 - j.area) j.next s).2 = 0
    · refine fine.len (m := m) ?_ hl
      have : (saveF m j s).2.1 = ⟨1 - j.area, s, [], j.next + 1, sizeN s.size, j.dead⟩ := by
        unfold saveF; rw [if_neg (by rw [hm]; simp), if_neg (by rw [hw]; simp)]
      rw [this]
      exact ⟨by show 0 < j.next + 1; omega, by show sizeN s.size ≤ jsize m; omega, Nat.zero_le _, h4⟩
    · refine fine.len (m := m) ?_ hl
      have : (saveF m j s).2.1 = { j with dead := true } := by
        unfold saveF; rw [if_neg (by rw [hm]; simp), if_pos hw]
      rw [this]
      exact ⟨h1, h2, h3, h4⟩
  · refine fine.len (m := m) ?_ hl
    have : (saveF m j s).2.1 = j := by unfold saveF; rw [if_pos hm]
    rw [this]; exact h
theorem fine.format {m : DM} {s : ByteArray} {j : JM} (h : (formatF m s).2.1 = some j) : fine (formatF m s).1 j := by
  refine fine.len (m := m) ?_ (formatF_len m s)
  unfold formatF at h
  split at h
  · cases h
  · rename_i hz
    split at h
    · cases h
    · rename_i hf
      split at h
      · cases h
      · split at h
        · cases h
        · split at h
          · cases h
          · obtain rfl := Option.some.inj h
            refine ⟨by show 0 < topN m m.S.length + 2; omega, ?_, Nat.zero_le _, hz⟩
            show sizeN s.size ≤ jsize m
            unfold fitsF at hf
            by_cases h1 : 60000 < s.size
            · rw [if_pos h1] at hf; simp at hf
            · rw [if_neg h1] at hf
              by_cases h2 : (jsize m : Int) < (sizeN s.size : Int)
              · rw [if_pos h2] at hf; simp at hf
              · omega
theorem recsF_fine (l : List ByteArray) : ∀ (k next used : Nat) (acc : List ByteArray), 0 < next → used ≤ l.length → acc.length ≤ used →
    0 < (recsF l k next used acc).2.1 ∧ (recsF l k next used acc).2.2 ≤ l.length ∧ (recsF l k next used acc).1.length ≤ (recsF l k next used acc).2.2
  | 0, next, used, acc, h1, h2, h3 => ⟨h1, h2, h3⟩
  | k + 1, next, used, acc, h1, h2, h3 => by
    by_cases hc : used < l.length ∧ (readF (l.drop used) next).2.2 = true
    · have hr := readF_ok hc.2
      rw [List.length_drop] at hr
      rw [recsF.eq_2, if_pos hc]
      refine recsF_fine l k _ _ _ (by omega) (by omega) ?_
      rw [List.length_append, List.length_singleton]; omega
    · rw [recsF_stop l _ _ _ _ hc]; exact ⟨h1, h2, h3⟩
theorem fine.opened {m : DM} {j : JM} (hw : m.wf) (h : (openF m).1 = some j) : fine m j := by
  by_cases hz : jsize m = 0
  · unfold openF at h; rw [if_pos hz] at h; cases h
  · cases hd : m.dead
    · have hjl := jsize_le hw
      rw [rOpen_eq hz (by omega) hd] at h
      cases hb : rBestF m 2 with
      | none => rw [hb] at h; cases h
      | some q =>
        rw [hb] at h
        obtain rfl := Option.some.inj h
        obtain ⟨a, _, ha⟩ := rBest_recs hb
        have hp := rHead_pos ha
        have hl : (secsM m (firstF m q.area) (jsize m)).length = jsize m := by unfold secsM; simp
        have := recsF_fine (secsM m (firstF m q.area) (jsize m)) 5000 q.next q.used [] (by omega) (by omega) (Nat.zero_le _)
        rw [hl] at this
        exact ⟨this.1, this.2.1, this.2.2, hz⟩
    · unfold openF at h; rw [if_neg hz, hd] at h; cases h
end Go.Proofs.YtcakellhellddaaGreatDoor
namespace Go.Proofs.YtcakellhellddaaGreatDoor
open Go.RowKit
/-- Blocks that are new. -/
def newB (w w' : World) (k : Nat) : Prop := w.heap.size ≤ k ∧ k < w'.heap.size
def orNew (A : Nat → Prop) (w w' : World) (k : Nat) : Prop := A k ∨ newB w w' k
/-- The program's journal, if there is one. -/
def PJ (w : World) (b mb : Nat) (A : Nat → Prop) : Option JM → Value → Prop
  | none, x => x = .pointer none
  | some j, x => ∃ jb v, x = .pointer (some ⟨jb, 0, none⟩) ∧ JAt w jb b v j ∧ A jb ∧ (∀ k, v.ownBlock = some k → A k)
/-- The reference's. -/
def QJ (w : World) (rb sb : Nat) (B : Nat → Prop) : Option JM → Value → Prop
  | none, y => y = .pointer none
  | some j, y => ∃ qb u, y = .pointer (some ⟨qb, 0, none⟩) ∧ RJ w qb rb u j ∧ RApart rb sb qb u ∧ B qb ∧ (∀ k, u.ownBlock = some k → B k)
theorem PJ.only {w w' : World} {b mb : Nat} {A A' S : Nat → Prop} {x : Value} : ∀ {jo : Option JM}, PJ w b mb A jo x → Only S w w' → (∀ k, A k → S k → own2 b mb k) → (∀ m, DiskAt w b mb m → True) → (∃ m, DiskAt w b mb m) → (∀ k, A k → A' k) → PJ w' b mb A' jo x
  | none, h, _, _, _, _, _ => h
  | some j, ⟨jb, v, hx, hj, ha, hv⟩, ho, hS, _, ⟨m, hd⟩, hA => by
    obtain ⟨h1, h2⟩ := hj.apart hd
    exact ⟨jb, v, hx, hj.only ho (fun h => h1 (hS _ ha h)) (fun k hk h => h2 k hk (hS _ (hv k hk) h)), hA _ ha, fun k hk => hA _ (hv k hk)⟩
theorem QJ.only {w w' : World} {rb sb : Nat} {B B' S : Nat → Prop} {y : Value} : ∀ {ko : Option JM}, QJ w rb sb B ko y → Only S w w' → (∀ k, B k → S k → own2 rb sb k) → (∀ k, B k → B' k) → QJ w' rb sb B' ko y
  | none, h, _, _, _ => h
  | some j, ⟨qb, u, hy, hj, hap, hb, hu⟩, ho, hS, hB => 
    ⟨qb, u, hy, hj.only ho (fun h => hap.1 (hS _ hb h)) (fun k hk h => (hap.2 k hk).1 (hS _ (hu k hk) h)), hap, hB _ hb, fun k hk => hB _ (hu k hk)⟩
structure JP (w0 : World) (b mb rb sb : Nat) (m q : DM) (jo ko : Option JM) (x y : Value) (A B : Nat → Prop) (w : World) : Prop where
  bel : Below w0.heap.size w0 w
  disk : DiskAt w b mb m
  ref : RefAt w rb sb q
  a0 : ∀ k, A k → w0.heap.size ≤ k ∧ k < w.heap.size
  b0 : ∀ k, B k → w0.heap.size ≤ k ∧ k < w.heap.size
  ab : ∀ k, A k → ¬ B k
  ad : ∀ k, own2 b mb k → A k
  bd : ∀ k, own2 rb sb k → B k
  pj : PJ w b mb A jo x
  qj : QJ w rb sb B ko y
  ok : ∀ j, ko = some j → fine q j
section
variable {w0 w w' : World} {b mb rb sb : Nat} {m m' q q' : DM} {jo ko jo' ko' : Option JM} {x y x' y' : Value} {A B : Nat → Prop}
/-- The program does something. -/
theorem JP.prog (h : JP w0 b mb rb sb m q jo ko x y A B w) (ho : Only A w w') (hd : DiskAt w' b mb m') (hx : PJ w' b mb (orNew A w w') jo' x') : JP w0 b mb rb sb m' q jo' ko x' y (orNew A w w') B w' :=
  have hz := ho.size
  have hz0 := h.bel.size
  ⟨h.bel.trans (ho.below hz0 (fun k hk ha => by have := h.a0 k ha; omega)), hd, h.ref.only ho (fun e => h.ab _ e (h.bd _ (.inl rfl))) (fun e => h.ab _ e (h.bd _ (.inr rfl))),
    fun k hk => by rcases hk with e | e; exact ⟨(h.a0 k e).1, Nat.lt_of_lt_of_le (h.a0 k e).2 hz⟩; exact ⟨Nat.le_trans hz0 e.1, e.2⟩,
    fun k hk => ⟨(h.b0 k hk).1, Nat.lt_of_lt_of_le (h.b0 k hk).2 hz⟩,
    fun k hk hb => by rcases hk with e | e; exact h.ab k e hb; have := (h.b0 k hb).2; have := e.1; omega,
    fun k hk => .inl (h.ad k hk), h.bd, hx, h.qj.only ho (fun k hk hs => absurd hk (h.ab k hs)) (fun k hk => hk), h.ok⟩
/-- The reference does something. -/
theorem JP.refd (h : JP w0 b mb rb sb m q jo ko x y A B w) (ho : Only B w w') (hd : RefAt w' rb sb q') (hy : QJ w' rb sb (orNew B w w') ko' y') (hok : ∀ j, ko' = some j → fine q' j) : JP w0 b mb rb sb m q' jo ko' x y' A (orNew B w w') w' :=
  have hz := ho.size
  have hz0 := h.bel.size
  ⟨h.bel.trans (ho.below hz0 (fun k hk ha => by have := h.b0 k ha; omega)), h.disk.only ho (fun e => h.ab _ (h.ad _ (.inl rfl)) e) (fun e => h.ab _ (h.ad _ (.inr rfl)) e), hd,
    fun k hk => ⟨(h.a0 k hk).1, Nat.lt_of_lt_of_le (h.a0 k hk).2 hz⟩,
    fun k hk => by rcases hk with e | e; exact ⟨(h.b0 k e).1, Nat.lt_of_lt_of_le (h.b0 k e).2 hz⟩; exact ⟨Nat.le_trans hz0 e.1, e.2⟩,
    fun k ha hk => by rcases hk with e | e; exact h.ab k ha e; have := (h.a0 k ha).2; have := e.1; omega,
    h.ad, fun k hk => .inl (h.bd k hk), h.pj.only ho (fun k hk hs => absurd hs (h.ab k hk)) (fun _ _ => trivial) ⟨m, h.disk⟩ (fun k hk => hk), hy, hok⟩
theorem JP.below (h : JP w0 b mb rb sb m q jo ko x y A B w) (hb : Below w.heap.size w w') : JP w0 b mb rb sb m q jo ko x y A B w' :=
  have ho : Only (fun _ => False) w w' := Only.of_below hb
  have hz := hb.size
  ⟨h.bel.trans (hb.mono h.bel.size), h.disk.only ho (fun e => e) (fun e => e), h.ref.only ho (fun e => e) (fun e => e),
    fun k hk => ⟨(h.a0 k hk).1, Nat.lt_of_lt_of_le (h.a0 k hk).2 hz⟩, fun k hk => ⟨(h.b0 k hk).1, Nat.lt_of_lt_of_le (h.b0 k hk).2 hz⟩, h.ab, h.ad, h.bd,
    h.pj.only ho (fun _ _ e => e.elim) (fun _ _ => trivial) ⟨m, h.disk⟩ (fun k hk => hk), h.qj.only ho (fun _ _ e => e.elim) (fun k hk => hk), h.ok⟩
/-! The program's calls. -/
theorem jp_arm (h : JP w0 b mb rb sb m q jo ko x y A B w) (n p : Int) :
    Calls Tryz.prog 15 #[.pointer (some ⟨b, 0, none⟩), .int .i64 n, .int .i64 p] w fun e w' => e = .returned (.int .i64 (m.arm n p).2) ∧ ∃ A', JP w0 b mb rb sb (m.arm n p).1 q jo ko x y A' B w' ∧ Only A w w' := by
  refine (arm_any b mb m n p w h.disk).mono ?_
  rintro e w' ⟨rfl, hd, ho⟩
  have ho' : Only A w w' := ho.mono (fun k _ hk => h.ad k hk)
  exact ⟨rfl, _, h.prog ho' hd (h.pj.only ho (fun k _ hk => hk) (fun _ _ => trivial) ⟨m, h.disk⟩ (fun k hk => .inl hk)), ho'⟩
theorem jp_start (h : JP w0 b mb rb sb m q jo ko x y A B w) :
    Calls Tryz.prog 17 #[.pointer (some ⟨b, 0, none⟩)] w fun e w' => e = .returned (.tuple #[]) ∧ ∃ A', JP w0 b mb rb sb m.start q jo ko x y A' B w' ∧ Only A w w' := by
  refine (start_any b mb m w h.disk).mono ?_
  rintro e w' ⟨rfl, hd, ho⟩
  have ho' : Only A w w' := ho.mono (fun k _ hk => h.ad k hk)
  exact ⟨rfl, _, h.prog ho' hd (h.pj.only ho (fun k _ hk => hk) (fun _ _ => trivial) ⟨m, h.disk⟩ (fun k hk => .inl hk)), ho'⟩
theorem jp_write (h : JP w0 b mb rb sb m q jo ko x y A B w) (i : Int) (s : ByteArray) (hs : s.size ≤ maxLen) :
    Calls Tryz.prog 21 #[.pointer (some ⟨b, 0, none⟩), .int .i64 i, .string s] w fun e w' => e = .returned (.int .i64 (m.write i s).2) ∧ ∃ A', JP w0 b mb rb sb (m.write i s).1 q jo ko x y A' B w' ∧ Only A w w' := by
  refine (write_any b mb m i s w h.disk hs).mono ?_
  rintro e w' ⟨rfl, hd, ho⟩
  have ho' : Only A w w' := ho.mono (fun k _ hk => h.ad k hk)
  exact ⟨rfl, _, h.prog ho' hd (h.pj.only ho (fun k _ hk => hk) (fun _ _ => trivial) ⟨m, h.disk⟩ (fun k hk => .inl hk)), ho'⟩
theorem jp_open (h : JP w0 b mb rb sb m q jo ko x y A B w) :
    Calls Tryz.prog 19 #[.pointer (some ⟨b, 0, none⟩)] w fun e w' => ∃ x' A', e = .returned (.tuple #[x', .int .i64 (openF m).2]) ∧ JP w0 b mb rb sb m q (openF m).1 ko x' y A' B w' ∧ Only A w w' := by
  refine (jopen_any b mb m w h.disk).mono ?_
  rintro e w' ⟨hb, hp⟩
  have ho : Only (fun _ => False) w w' := Only.of_below hb
  have hd := h.disk.only ho (fun e => e) (fun e => e)
  cases hj : (openF m).1 with
  | none =>
    rw [hj] at hp
    have ho' : Only A w w' := ho.mono (fun _ _ e => e.elim)
    exact ⟨_, _, hp, h.prog ho' hd rfl, ho'⟩
  | some j =>
    rw [hj] at hp
    obtain ⟨jb, v, he, hj', h1, h2⟩ := hp
    have ho' : Only A w w' := ho.mono (fun _ _ e => e.elim)
    exact ⟨_, _, he, h.prog ho' hd ⟨jb, v, rfl, hj', .inr ⟨h1, hj'.blk.lt⟩, fun k hk => .inr ⟨h2 k hk, own_lt2 hj'.row k hk⟩⟩, ho'⟩
theorem jp_format (h : JP w0 b mb rb sb m q jo ko x y A B w) (s : ByteArray) :
    Calls Tryz.prog 8 #[.pointer (some ⟨b, 0, none⟩), .string s] w fun e w' => ∃ x' A', e = .returned (.tuple #[x', .int .i64 (formatF m s).2.2]) ∧ JP w0 b mb rb sb (formatF m s).1 q (formatF m s).2.1 ko x' y A' B w' ∧ Only A w w' := by
  refine (format_any b mb m s w h.disk).mono ?_
  rintro e w' ⟨hd, ho, hp⟩
  cases hj : (formatF m s).2.1 with
  | none =>
    rw [hj] at hp
    have ho' : Only A w w' := ho.mono (fun k _ hk => h.ad k hk)
    exact ⟨_, _, hp, h.prog ho' hd rfl, ho'⟩
  | some j =>
    rw [hj] at hp
    obtain ⟨jb, he, hj', h1⟩ := hp
    have ho' : Only A w w' := ho.mono (fun k _ hk => h.ad k hk)
    exact ⟨_, _, he, h.prog ho' hd ⟨jb, _, rfl, hj', .inr ⟨h1, hj'.blk.lt⟩, fun k hk => by cases hk⟩, ho'⟩
theorem op_post {j : JM} {r : DM × JM × Int} {jb : Nat} {v : Value} {e : Ending} (h : JP w0 b mb rb sb m q (some j) ko (.pointer (some ⟨jb, 0, none⟩)) y A B w) (ha : A jb) (hv : ∀ k, v.ownBlock = some k → A k) (hp : OpPost b mb jb v r w e w') :
    e = .returned (.int .i64 r.2.2) ∧ ∃ A', JP w0 b mb rb sb r.1 q (some r.2.1) ko (.pointer (some ⟨jb, 0, none⟩)) y A' B w' ∧ Only A w w' := by
  obtain ⟨he, hd, ho, v', hj', hv'⟩ := hp
  have ho' : Only A w w' := ho.mono (fun k _ hk => by
    rcases hk with e | rfl | e
    · exact h.ad k e
    · exact ha
    · exact hv k e)
  refine ⟨he, _, h.prog ho' hd ⟨jb, v', rfl, hj', .inl ha, fun k hk => ?_⟩, ho'⟩
  · rcases hv' k hk with e | e
    · exact .inl (hv k e)
    · exact .inr ⟨e, own_lt2 hj'.row k hk⟩
theorem jp_append {j : JM} (h : JP w0 b mb rb sb m q (some j) ko x y A B w) (hrl : j.recs.length ≤ 999999) (s : ByteArray) :
    Calls Tryz.prog 11 #[x, .string s] w fun e w' => e = .returned (.int .i64 (appendF m j s).2.2) ∧ ∃ A', JP w0 b mb rb sb (appendF m j s).1 q (some (appendF m j s).2.1) ko x y A' B w' ∧ Only A w w' := by
  obtain ⟨jb, v, rfl, hj, ha, hv⟩ := h.pj
  exact (append_any b mb jb m v j s w h.disk hj hrl).mono (fun e w' hp => op_post h ha hv hp)
theorem jp_save {j : JM} (h : JP w0 b mb rb sb m q (some j) ko x y A B w) (s : ByteArray) :
    Calls Tryz.prog 13 #[x, .string s] w fun e w' => e = .returned (.int .i64 (saveF m j s).2.2) ∧ ∃ A', JP w0 b mb rb sb (saveF m j s).1 q (some (saveF m j s).2.1) ko x y A' B w' ∧ Only A w w' := by
  obtain ⟨jb, v, rfl, hj, ha, hv⟩ := h.pj
  exact (save_any b mb jb m v j s w h.disk hj).mono (fun e w' hp => op_post h ha hv hp)
/-! The reference's. -/
theorem jq_arm (h : JP w0 b mb rb sb m q jo ko x y A B w) (n p : Int) :
    Calls Tryz.prog 16 #[.pointer (some ⟨rb, 0, none⟩), .int .i64 n, .int .i64 p] w fun e w' => e = .returned (.int .i64 (q.arm n p).2) ∧ ∃ B', JP w0 b mb rb sb m (q.arm n p).1 jo ko x y A B' w' ∧ Only B w w' := by
  refine (ref_arm rb sb q n p w h.ref).mono ?_
  rintro e w' ⟨rfl, hd, ho⟩
  have ho' : Only B w w' := ho.mono (fun k _ hk => h.bd k hk)
  refine ⟨rfl, _, h.refd ho' hd (h.qj.only ho (fun k _ hk => hk) (fun k hk => .inl hk)) (fun j hj => (h.ok j hj).len ?_), ho'⟩
  unfold DM.arm
  split <;> rfl
theorem jq_start (h : JP w0 b mb rb sb m q jo ko x y A B w) :
    Calls Tryz.prog 18 #[.pointer (some ⟨rb, 0, none⟩)] w fun e w' => e = .returned (.tuple #[]) ∧ ∃ B', JP w0 b mb rb sb m q.start jo ko x y A B' w' ∧ Only B w w' := by
  refine (ref_start rb sb q w h.ref).mono ?_
  rintro e w' ⟨rfl, hd, ho⟩
  have ho' : Only B w w' := ho.mono (fun k _ hk => h.bd k hk)
  exact ⟨rfl, _, h.refd ho' hd (h.qj.only ho (fun k _ hk => hk) (fun k hk => .inl hk)) (fun j hj => (h.ok j hj).len rfl), ho'⟩
theorem jq_write (h : JP w0 b mb rb sb m q jo none x y A B w) (i : Int) (s : ByteArray) :
    Calls Tryz.prog 23 #[.pointer (some ⟨rb, 0, none⟩), .int .i64 i, .string s] w fun e w' => e = .returned (.int .i64 (q.write i s).2) ∧ ∃ B', JP w0 b mb rb sb m (q.write i s).1 jo none x y A B' w' ∧ Only B w w' := by
  refine (ref_write rb sb q i s w h.ref).mono ?_
  rintro e w' ⟨rfl, hd, ho⟩
  have ho' : Only B w w' := ho.mono (fun k _ hk => h.bd k hk)
  exact ⟨rfl, _, h.refd ho' hd (h.qj.only ho (fun k _ hk => hk) (fun k hk => .inl hk)) (fun j hj => by cases hj), ho'⟩
theorem jq_open (h : JP w0 b mb rb sb m q jo ko x y A B w) :
    Calls Tryz.prog 20 #[.pointer (some ⟨rb, 0, none⟩)] w fun e w' => ∃ y' B', e = .returned (.tuple #[y', .int .i64 (openF q).2]) ∧ JP w0 b mb rb sb m q jo (openF q).1 x y' A B' w' ∧ Only B w w' := by
  refine (rjOpen_any rb sb q w h.ref).mono ?_
  rintro e w' ⟨hb, hp⟩
  have ho : Only (fun _ => False) w w' := Only.of_below hb
  have hd := h.ref.only ho (fun e => e) (fun e => e)
  have hlt := h.ref.lt
  cases hj : (openF q).1 with
  | none =>
    rw [hj] at hp
    have ho' : Only B w w' := ho.mono (fun _ _ e => e.elim)
    exact ⟨_, _, hp, h.refd ho' hd rfl (fun j hj => by cases hj), ho'⟩
  | some j =>
    rw [hj] at hp
    obtain ⟨qb, v, he, hj', h1, h2⟩ := hp
    have ho' : Only B w w' := ho.mono (fun _ _ e => e.elim)
    refine ⟨_, _, he, h.refd ho' hd ⟨qb, v, rfl, hj', ⟨fun e => ?_, fun k hk => ⟨fun e => ?_, (h2 k hk).2⟩⟩, .inr ⟨h1, hj'.blk.lt⟩, fun k hk => .inr ⟨(h2 k hk).1, own_lt2 hj'.row k hk⟩⟩ (fun i hi => ?_), ho'⟩
    · rcases e with e | e <;> omega
    · have := (h2 k hk).1
      rcases e with e | e <;> omega
    · obtain rfl := Option.some.inj hi
      exact fine.opened h.ref.wf hj
theorem jq_format (h : JP w0 b mb rb sb m q jo ko x y A B w) (s : ByteArray) (hs : s.size ≤ maxLen) :
    Calls Tryz.prog 9 #[.pointer (some ⟨rb, 0, none⟩), .string s] w fun e w' => ∃ y' B', e = .returned (.tuple #[y', .int .i64 (formatF q s).2.2]) ∧ JP w0 b mb rb sb m (formatF q s).1 jo (formatF q s).2.1 x y' A B' w' ∧ Only B w w' := by
  refine (rjFormat_any rb sb q s hs w h.ref).mono ?_
  rintro e w' ⟨hd, ho, hp⟩
  have hlt := h.ref.lt
  cases hj : (formatF q s).2.1 with
  | none =>
    rw [hj] at hp
    have ho' : Only B w w' := ho.mono (fun k _ hk => h.bd k hk)
    exact ⟨_, _, hp, h.refd ho' hd rfl (fun j hj => by cases hj), ho'⟩
  | some j =>
    rw [hj] at hp
    obtain ⟨qb, he, hj', h1⟩ := hp
    have ho' : Only B w w' := ho.mono (fun k _ hk => h.bd k hk)
    refine ⟨_, _, he, h.refd ho' hd ⟨qb, _, rfl, hj', ⟨fun e => ?_, fun k hk => by cases hk⟩, .inr ⟨h1, hj'.blk.lt⟩, fun k hk => by cases hk⟩ (fun i hi => ?_), ho'⟩
    · rcases e with e | e <;> omega
    · obtain rfl := Option.some.inj hi
      exact fine.format hj
theorem rout_post {j : JM} {r : DM × JM × Int} {qb : Nat} {u : Value} {e : Ending} (h : JP w0 b mb rb sb m q jo (some j) x (.pointer (some ⟨qb, 0, none⟩)) A B w) (hap : RApart rb sb qb u) (hq : B qb) (hu : ∀ k, u.ownBlock = some k → B k) (hqj : RJ w qb rb u j) (hf : fine r.1 r.2.1) (hp : ROut rb sb qb u r w e w') :
    e = .returned (.int .i64 r.2.2) ∧ ∃ B', JP w0 b mb rb sb m r.1 jo (some r.2.1) x (.pointer (some ⟨qb, 0, none⟩)) A B' w' ∧ Only B w w' := by
  obtain ⟨he, hd, ho, v', hj', hv'⟩ := hp
  have hlt := h.ref.lt
  have hqlt := hqj.blk.lt
  have ho' : Only B w w' := ho.mono (fun k _ hk => by
    rcases hk with e | rfl
    · exact h.bd k e
    · exact hq)
  refine ⟨he, _, h.refd ho' hd ⟨qb, v', rfl, hj', ⟨hap.1, fun k hk => ?_⟩, .inl hq, fun k hk => ?_⟩ (fun i hi => ?_), ho'⟩
  · rcases hv' k hk with e | e
    · exact hap.2 k e
    · exact ⟨fun e2 => by rcases e2 with e2 | e2 <;> omega, by omega⟩
  · rcases hv' k hk with e | e
    · exact .inl (hu k e)
    · exact .inr ⟨e, own_lt2 hj'.row k hk⟩
  · obtain rfl := Option.some.inj hi
    exact hf
theorem jq_append {j : JM} (h : JP w0 b mb rb sb m q jo (some j) x y A B w) (s : ByteArray) (hs : s.size ≤ maxLen) :
    Calls Tryz.prog 12 #[y, .string s] w fun e w' => e = .returned (.int .i64 (appendF q j s).2.2) ∧ ∃ B', JP w0 b mb rb sb m (appendF q j s).1 jo (some (appendF q j s).2.1) x y A B' w' ∧ Only B w w' := by
  obtain ⟨qb, u, rfl, hj, hap, hq, hu⟩ := h.qj
  have hf := h.ok j rfl
  have hjl := jsize_le h.ref.wf
  obtain ⟨f1, f2, f3, f4⟩ := hf
  exact (rjAppend_any rb sb qb q f4 u j s hs w h.ref hj hap f1 (by omega) f2).mono (fun e w' hp => rout_post h hap hq hu hj (fine.append ⟨f1, f2, f3, f4⟩ s) hp)
theorem jq_save {j : JM} (h : JP w0 b mb rb sb m q jo (some j) x y A B w) (s : ByteArray) (hs : s.size ≤ maxLen) :
    Calls Tryz.prog 14 #[y, .string s] w fun e w' => e = .returned (.int .i64 (saveF q j s).2.2) ∧ ∃ B', JP w0 b mb rb sb m (saveF q j s).1 jo (some (saveF q j s).2.1) x y A B' w' ∧ Only B w w' := by
  obtain ⟨qb, u, rfl, hj, hap, hq, hu⟩ := h.qj
  have hf := h.ok j rfl
  obtain ⟨f1, f2, f3, f4⟩ := hf
  exact (rjSave_any rb sb qb q f4 u j s hs w h.ref hj hap f1).mono (fun e w' hp => rout_post h hap hq hu hj (fine.save ⟨f1, f2, f3, f4⟩ s) hp)
end
end Go.Proofs.YtcakellhellddaaGreatDoor
namespace Go.Proofs.YtcakellhellddaaGreatDoor
open Go.RowKit
set_option maxHeartbeats 4000000 in
/-- Both journals tell the same. -/
theorem same12_any {w0 w : World} {b mb rb sb : Nat} {m : DM} {jo : Option JM} {x y : Value} {A B : Nat → Prop} (h : JP w0 b mb rb sb m m jo jo x y A B w) :
    Calls Tryz.prog 10 #[x, y] w fun e w' => e = .returned (.bool true) ∧ Below w.heap.size w w' := by
  cases jo with
  | none =>
    obtain rfl : x = .pointer none := h.pj
    obtain rfl : y = .pointer none := h.qj
    clear h
    go_enter Tryz.func10, Tryz.ntmps10
    go_wp2_with fail
    go_ret
    exact ⟨rfl, Below.refl _ _⟩
  | some j =>
    obtain ⟨jb, v, rfl, hj, _, _⟩ := h.pj
    obtain ⟨qb, u, rfl, hq, _, _, _⟩ := h.qj
    have hfin := Lib.hid (h.ok j rfl)
    have HJ := Lib.hid hj
    have HQ := Lib.hid hq
    have HD := Lib.hid h.disk
    have HR := Lib.hid h.ref
    have q1 : w.cell? ⟨qb, 1, none⟩ = some (.string j.base) := hq.blk.cell 1
    have q2 : w.cell? ⟨qb, 2, none⟩ = some u := hq.blk.cell 2
    have q3 : w.cell? ⟨qb, 3, none⟩ = some (.int .u32 (j.next : Int)) := hq.blk.cell 3
    have hqb := Lib.hid hq.blk.lt
    clear h hj hq
    go_enter Tryz.func10, Tryz.ntmps10
    go_wp2_with fail
    refine wp_region_held_drew (S := fun w' => w'.cell? ⟨qb, 1, none⟩ = some (.string j.base) ∧ w'.cell? ⟨qb, 2, none⟩ = some u ∧ w'.cell? ⟨qb, 3, none⟩ = some (.int .u32 (j.next : Int))) (by kernel_rfl) ⟨q1, q2, q3⟩ (fun hHeld => ?_)
    refine take_op 0 (some 9) (v := ?_) rfl rfl (by kernel_rfl) (by kernel_rfl) (by kernel_rfl) (fun _ _ _ h => h) (Or.inl ⟨by rfl, ?_⟩) (by assumption) ?_
    rotate_left
    · intro w_ hSw_; (try dsimp only at hSw_); go_simp; (try with_reducible rfl)
    try simp only [Act.put, List.setIfInBounds_toArray, List.set_cons_zero, List.set_cons_succ]
    refine take_op 1 (some 10) (v := ?_) rfl rfl (by kernel_rfl) (by kernel_rfl) (by kernel_rfl) (fun _ _ _ h => h) (Or.inl ⟨by rfl, ?_⟩) (by assumption) ?_
    rotate_left
    · intro w_ hSw_; (try dsimp only at hSw_); go_simp; (try with_reducible rfl)
    try simp only [Act.put, List.setIfInBounds_toArray, List.set_cons_zero, List.set_cons_succ]
    refine take_op 2 (some 11) (v := ?_) rfl rfl (by kernel_rfl) (by kernel_rfl) (by kernel_rfl) (fun _ _ _ h => h) (Or.inl ⟨by rfl, ?_⟩) (by assumption) ?_
    rotate_left
    · intro w_ hSw_; (try dsimp only at hSw_); go_simp; (try with_reducible rfl)
    try simp only [Act.put, List.setIfInBounds_toArray, List.set_cons_zero, List.set_cons_succ]
    refine take_op 3 (some 12) (v := ?_) rfl rfl (by kernel_rfl) (by kernel_rfl) (by kernel_rfl) (fun _ _ _ h => h) (Or.inl ⟨by rfl, ?_⟩) (by assumption) ?_
    rotate_left
    · intro w_ hSw_; (try dsimp only at hSw_); go_simp; (try with_reducible rfl)
    try simp only [Act.put, List.setIfInBounds_toArray, List.set_cons_zero, List.set_cons_succ]
    refine take_op 5 (some 14) (v := ?_) rfl rfl (by kernel_rfl) (by kernel_rfl) (by kernel_rfl) (fun _ _ _ h => h) (Or.inl ⟨by rfl, ?_⟩) (by assumption) ?_
    rotate_left
    · intro w_ hSw_; (try dsimp only at hSw_); go_simp; (try with_reducible rfl)
    try simp only [Act.put, List.setIfInBounds_toArray, List.set_cons_zero, List.set_cons_succ]
    refine take_op 6 (some 15) (v := ?_) rfl rfl (by kernel_rfl) (by kernel_rfl) (by kernel_rfl) (fun _ _ _ h => h) (Or.inl ⟨by rfl, ?_⟩) (by assumption) ?_
    rotate_left
    · intro w_ hSw_; (try dsimp only at hSw_); go_simp; (try with_reducible rfl)
    try simp only [Act.put, List.setIfInBounds_toArray, List.set_cons_zero, List.set_cons_succ]
    refine take_op 7 (some 16) (v := ?_) rfl rfl (by kernel_rfl) (by kernel_rfl) (by kernel_rfl) (fun _ _ _ h => h) (Or.inl ⟨by rfl, ?_⟩) (by assumption) ?_
    rotate_left
    · intro w_ hSw_; (try dsimp only at hSw_); go_simp; (try with_reducible rfl)
    try simp only [Act.put, List.setIfInBounds_toArray, List.set_cons_zero, List.set_cons_succ]
    refine take_op 8 (some 17) (v := ?_) rfl rfl (by kernel_rfl) (by kernel_rfl) (by kernel_rfl) (fun _ _ _ h => h) (Or.inl ⟨by rfl, ?_⟩) (by assumption) ?_
    rotate_left
    · intro w_ hSw_; (try dsimp only at hSw_); go_simp; (try with_reducible rfl)
    try simp only [Act.put, List.setIfInBounds_toArray, List.set_cons_zero, List.set_cons_succ]
    refine go_op 4 rfl (by kernel_rfl) (fun K_ hK_ => ?_)
    go_simp
    refine (jbase_any jb b v j _ (HJ.out.grown ((Below.refl _ w).drew))).mono ?_
    rintro e w1 ⟨rfl, hw1⟩
    have hw1 := hw1.symm
    subst hw1
    refine hK_.out _ _ ?_ (fun hHeld_ => ?_)
    · exact hHeld
    refine take_op 9 (some 18) (v := ?_) rfl rfl (by kernel_rfl) (by kernel_rfl) (by kernel_rfl) (fun _ _ _ h => h) (Or.inl ⟨by rfl, ?_⟩) (by assumption) ?_
    rotate_left
    · intro w_ hSw_; (try dsimp only at hSw_); go_simp; (try with_reducible rfl)
    try simp only [Act.put, List.setIfInBounds_toArray, List.set_cons_zero, List.set_cons_succ]
    refine take_op 10 (some 19) (v := ?_) rfl rfl (by kernel_rfl) (by kernel_rfl) (by kernel_rfl) (fun _ _ _ h => h) (Or.inl ⟨by rfl, ?_⟩) (by assumption) ?_
    rotate_left
    · intro w_ hSw_; (try dsimp only at hSw_); go_simp; (try with_reducible rfl)
    try simp only [Act.put, List.setIfInBounds_toArray, List.set_cons_zero, List.set_cons_succ]
    refine take_op 11 (some 20) (v := ?_) rfl rfl (by kernel_rfl) (by kernel_rfl) (by kernel_rfl) (fun _ _ _ h => h) (Or.inl ⟨by rfl, ?_⟩) (by assumption) ?_
    rotate_left
    · intro w_ hSw_; (try dsimp only at hSw_); go_simp; (try with_reducible rfl)
    try simp only [Act.put, List.setIfInBounds_toArray, List.set_cons_zero, List.set_cons_succ]
    refine take_op 12 (some 21) (v := ?_) rfl rfl (by kernel_rfl) (by kernel_rfl) (by kernel_rfl) (fun _ _ _ h => h) (Or.inl ⟨by rfl, ?_⟩) (by assumption) ?_
    rotate_left
    · intro w_ hSw_; (try dsimp only at hSw_); go_simp; (try with_reducible rfl)
    try simp only [Act.put, List.setIfInBounds_toArray, List.set_cons_zero, List.set_cons_succ]
    refine take_op 14 (some 23) (v := ?_) rfl rfl (by kernel_rfl) (by kernel_rfl) (by kernel_rfl) (fun _ _ _ h => h) (Or.inl ⟨by rfl, ?_⟩) (by assumption) ?_
    rotate_left
    · intro w_ hSw_; (try dsimp only at hSw_); go_simp; (try with_reducible rfl)
    try simp only [Act.put, List.setIfInBounds_toArray, List.set_cons_zero, List.set_cons_succ]
    refine take_op 15 (some 24) (v := ?_) rfl rfl (by kernel_rfl) (by kernel_rfl) (by kernel_rfl) (fun _ _ _ h => h) (Or.inl ⟨by rfl, ?_⟩) (by assumption) ?_
    rotate_left
    · intro w_ hSw_; (try dsimp only at hSw_); go_simp; (try with_reducible rfl)
    try simp only [Act.put, List.setIfInBounds_toArray, List.set_cons_zero, List.set_cons_succ]
    refine take_op 16 (some 25) (v := ?_) rfl rfl (by kernel_rfl) (by kernel_rfl) (by kernel_rfl) (fun _ _ _ h => h) (Or.inl ⟨by rfl, ?_⟩) (by assumption) ?_
    rotate_left
    · intro w_ hSw_; (try dsimp only at hSw_); go_simp; (try with_reducible rfl)
    try simp only [Act.put, List.setIfInBounds_toArray, List.set_cons_zero, List.set_cons_succ]
    refine take_op 17 (some 26) (v := ?_) rfl rfl (by kernel_rfl) (by kernel_rfl) (by kernel_rfl) (fun _ _ _ h => h) (Or.inl ⟨by rfl, ?_⟩) (by assumption) ?_
    rotate_left
    · intro w_ hSw_; (try dsimp only at hSw_); go_simp; (try with_reducible rfl)
    try simp only [Act.put, List.setIfInBounds_toArray, List.set_cons_zero, List.set_cons_succ]
    refine go_op 13 rfl (by kernel_rfl) (fun K_ hK_ => ?_)
    go_simp
    refine (jrecords_any jb b v j _ (HJ.out.grown ((Below.refl _ w).drew))).mono ?_
    rintro e w1 ⟨v1, rfl, hs1, _, hb1⟩
    have hb1 := (Below.refl w.heap.size w).drew.trans hb1
    have HB1 := Lib.hid hb1
    have HS1 := Lib.hid hs1
    have HQ1 := Lib.hid (HQ.out.grown hb1)
    clear hs1 hb1
    refine hK_.out _ _ ?_ (fun hHeld_ => ?_)
    · exact ⟨HQ1.out.blk.cell 1, HQ1.out.blk.cell 2, HQ1.out.blk.cell 3⟩
    refine go_op 18 rfl (by kernel_rfl) (fun K_ hK_ => ?_)
    go_simp
    refine (texts_any _ _ j.recs j.recs _ HS1.out (StrsAt.own HQ1.out.row rfl (by have := HQ1.out.wf.recs; omega))).mono ?_
    rintro e w2 ⟨rfl, hb2⟩
    have HB2 := Lib.hid (HB1.out.trans (hb2.mono HB1.out.size))
    clear hb2
    have HQ2 := Lib.hid (HQ.out.grown HB2.out)
    generalize hq9 : decide (j.recs = j.recs) = q9
    obtain rfl : q9 = true := by rw [← hq9]; exact decide_eq_true rfl
    clear hq9
    refine hK_.out _ _ ?_ (fun hHeld_ => ?_)
    · exact ⟨HQ2.out.blk.cell 1, HQ2.out.blk.cell 2, HQ2.out.blk.cell 3⟩
    refine take_op 19 (some 28) (v := ?_) rfl rfl (by kernel_rfl) (by kernel_rfl) (by kernel_rfl) (fun _ _ _ h => h) (Or.inl ⟨by rfl, ?_⟩) (by assumption) ?_
    rotate_left
    · intro w_ hSw_; (try dsimp only at hSw_); go_simp; (try with_reducible rfl)
    try simp only [Act.put, List.setIfInBounds_toArray, List.set_cons_zero, List.set_cons_succ]
    refine take_op 20 (some 29) (v := ?_) rfl rfl (by kernel_rfl) (by kernel_rfl) (by kernel_rfl) (fun _ _ _ h => h) (Or.inl ⟨by rfl, ?_⟩) (by assumption) ?_
    rotate_left
    · intro w_ hSw_; (try dsimp only at hSw_); go_simp; (try with_reducible rfl)
    try simp only [Act.put, List.setIfInBounds_toArray, List.set_cons_zero, List.set_cons_succ]
    refine take_op 21 (some 30) (v := ?_) rfl rfl (by kernel_rfl) (by kernel_rfl) (by kernel_rfl) (fun _ _ _ h => h) (Or.inl ⟨by rfl, ?_⟩) (by assumption) ?_
    rotate_left
    · intro w_ hSw_; (try dsimp only at hSw_); go_simp; (try with_reducible rfl)
    try simp only [Act.put, List.setIfInBounds_toArray, List.set_cons_zero, List.set_cons_succ]
    refine take_op 23 (some 32) (v := ?_) rfl rfl (by kernel_rfl) (by kernel_rfl) (by kernel_rfl) (fun _ _ _ h => h) (Or.inl ⟨by rfl, ?_⟩) (by assumption) ?_
    rotate_left
    · intro w_ hSw_; (try dsimp only at hSw_); go_simp; (try with_reducible rfl)
    try simp only [Act.put, List.setIfInBounds_toArray, List.set_cons_zero, List.set_cons_succ]
    refine take_op 24 (some 33) (v := ?_) rfl rfl (by kernel_rfl) (by kernel_rfl) (by kernel_rfl) (fun _ _ _ h => h) (Or.inl ⟨by rfl, ?_⟩) (by assumption) ?_
    rotate_left
    · intro w_ hSw_; (try dsimp only at hSw_); go_simp; (try with_reducible rfl)
    try simp only [Act.put, List.setIfInBounds_toArray, List.set_cons_zero, List.set_cons_succ]
    refine take_op 25 (some 34) (v := ?_) rfl rfl (by kernel_rfl) (by kernel_rfl) (by kernel_rfl) (fun _ _ _ h => h) (Or.inl ⟨by rfl, ?_⟩) (by assumption) ?_
    rotate_left
    · intro w_ hSw_; (try dsimp only at hSw_); go_simp; (try with_reducible rfl)
    try simp only [Act.put, List.setIfInBounds_toArray, List.set_cons_zero, List.set_cons_succ]
    refine take_op 26 (some 35) (v := ?_) rfl rfl (by kernel_rfl) (by kernel_rfl) (by kernel_rfl) (fun _ _ _ h => h) (Or.inl ⟨by rfl, ?_⟩) (by assumption) ?_
    rotate_left
    · intro w_ hSw_; (try dsimp only at hSw_); go_simp; (try with_reducible rfl)
    try simp only [Act.put, List.setIfInBounds_toArray, List.set_cons_zero, List.set_cons_succ]
    refine go_op 22 rfl (by kernel_rfl) (fun K_ hK_ => ?_)
    go_simp
    refine (jnext_any jb b v j _ (HJ.out.grown HB2.out)).mono ?_
    rintro e w3 ⟨rfl, hw3⟩
    have hw3 := hw3.symm
    subst hw3
    refine hK_.out _ _ ?_ (fun hHeld_ => ?_)
    · exact ⟨HQ2.out.blk.cell 1, HQ2.out.blk.cell 2, HQ2.out.blk.cell 3⟩
    refine take_op 27 (some 36) (v := ?_) rfl rfl (by kernel_rfl) (by kernel_rfl) (by kernel_rfl) (fun _ _ _ h => h) (Or.inl ⟨by rfl, ?_⟩) (by assumption) ?_
    rotate_left
    · intro w_ hSw_; (try dsimp only at hSw_); go_simp; (try with_reducible rfl)
    try simp only [Act.put, List.setIfInBounds_toArray, List.set_cons_zero, List.set_cons_succ]
    refine take_op 28 (some 37) (v := ?_) rfl rfl (by kernel_rfl) (by kernel_rfl) (by kernel_rfl) (fun _ _ _ h => h) (Or.inl ⟨by rfl, ?_⟩) (by assumption) ?_
    rotate_left
    · intro w_ hSw_; (try dsimp only at hSw_); go_simp; (try with_reducible rfl)
    try simp only [Act.put, List.setIfInBounds_toArray, List.set_cons_zero, List.set_cons_succ]
    refine take_op 29 (some 38) (v := ?_) rfl rfl (by kernel_rfl) (by kernel_rfl) (by kernel_rfl) (fun _ _ _ h => h) (Or.inl ⟨by rfl, ?_⟩) (by assumption) ?_
    rotate_left
    · intro w_ hSw_; (try dsimp only at hSw_); go_simp; (try with_reducible rfl)
    try simp only [Act.put, List.setIfInBounds_toArray, List.set_cons_zero, List.set_cons_succ]
    refine take_op 30 (some 39) (v := ?_) rfl rfl (by kernel_rfl) (by kernel_rfl) (by kernel_rfl) (fun _ _ _ h => h) (Or.inl ⟨by rfl, ?_⟩) (by assumption) ?_
    rotate_left
    · intro w_ hSw_; (try dsimp only at hSw_); go_simp; (try with_reducible rfl)
    try simp only [Act.put, List.setIfInBounds_toArray, List.set_cons_zero, List.set_cons_succ]
    refine take_op 32 (some 41) (v := ?_) rfl rfl (by kernel_rfl) (by kernel_rfl) (by kernel_rfl) (fun _ _ _ h => h) (Or.inl ⟨by rfl, ?_⟩) (by assumption) ?_
    rotate_left
    · intro w_ hSw_; (try dsimp only at hSw_); go_simp; (try with_reducible rfl)
    try simp only [Act.put, List.setIfInBounds_toArray, List.set_cons_zero, List.set_cons_succ]
    refine go_op 31 rfl (by kernel_rfl) (fun K_ hK_ => ?_)
    go_simp
    refine (jleft_any jb b mb v j m _ (HJ.out.grown HB2.out) (HD.out.grownS HB2.out)).mono ?_
    rintro e w3 ⟨rfl, hb3⟩
    have HB3 := Lib.hid (HB2.out.trans (hb3.mono HB2.out.size))
    clear hb3
    have HQ3 := Lib.hid (HQ.out.grown HB3.out)
    refine hK_.out _ _ ?_ (fun hHeld_ => ?_)
    · exact ⟨HQ3.out.blk.cell 1, HQ3.out.blk.cell 2, HQ3.out.blk.cell 3⟩
    refine go_op 33 rfl (by kernel_rfl) (fun K_ hK_ => ?_)
    go_simp
    refine (rjLeft_any qb rb sb u j m hfin.out.2.2.2 _ HQ3.out (HR.out.grown HB3.out)).mono ?_
    rintro e w4 ⟨rfl, hb4⟩
    have HB4 := Lib.hid (HB3.out.trans (hb4.mono HB3.out.size))
    clear hb4
    have HQ4 := Lib.hid (HQ.out.grown HB4.out)
    refine hK_.out _ _ ?_ (fun hHeld_ => ?_)
    · exact ⟨HQ4.out.blk.cell 1, HQ4.out.blk.cell 2, HQ4.out.blk.cell 3⟩
    refine take_op 34 (some 43) (v := ?_) rfl rfl (by kernel_rfl) (by kernel_rfl) (by kernel_rfl) (fun _ _ _ h => h) (Or.inl ⟨by rfl, ?_⟩) (by assumption) ?_
    rotate_left
    · intro w_ hSw_; (try dsimp only at hSw_); go_simp; (try with_reducible rfl)
    try simp only [Act.put, List.setIfInBounds_toArray, List.set_cons_zero, List.set_cons_succ]
    refine take_op 35 (some 44) (v := ?_) rfl rfl (by kernel_rfl) (by kernel_rfl) (by kernel_rfl) (fun _ _ _ h => h) (Or.inl ⟨by rfl, ?_⟩) (by assumption) ?_
    rotate_left
    · intro w_ hSw_; (try dsimp only at hSw_); go_simp; (try with_reducible rfl)
    try simp only [Act.put, List.setIfInBounds_toArray, List.set_cons_zero, List.set_cons_succ]
    refine take_op 36 (some 4) (v := ?_) rfl rfl (by kernel_rfl) (by kernel_rfl) (by kernel_rfl) (fun _ _ _ h => h) (Or.inl ⟨by rfl, ?_⟩) (by assumption) ?_
    rotate_left
    · intro w_ hSw_; (try dsimp only at hSw_); go_simp; (try with_reducible rfl)
    try simp only [Act.put, List.setIfInBounds_toArray, List.set_cons_zero, List.set_cons_succ]
    refine wpAnyH_done (by kernel_rfl) ?_ _
    go_wp2_with fail
    go_ret
    exact ⟨rfl, HB4.out⟩
/-- A text cut or filled up to a sector. -/
def rawF (s : ByteArray) : ByteArray := (s ++ zerosB 256).extract 0 256
theorem zerosB_size (n : Nat) : (zerosB n).size = n := by
  show (List.replicate n (0 : UInt8)).toArray.size = n
  rw [List.size_toArray, List.length_replicate]
theorem raw_any (s : ByteArray) (hs : s.size ≤ 61000) (w : World) : Calls Tryz.prog 22 #[.string s] w fun e w' => e = .returned (.string (rawF s)) ∧ Below w.heap.size w w' := by
  obtain ⟨z, hz⟩ : ∃ z, z = zerosB 256 := ⟨_, rfl⟩
  have hz1 : 256 ≤ z.size := by rw [hz, zerosB_size]; exact Nat.le_refl _
  have hz2 : z.size ≤ 256 := by rw [hz, zerosB_size]; exact Nat.le_refl _
  have HZ := Lib.hid hz
  unfold rawF
  rw [← hz]
  clear hz
  have hz3 : 256 ≤ s.size + z.size := by omega
  have hz4 : (256 : Int) ≤ (s.size : Int) + (z.size : Int) := by omega
  go_enter Tryz.func22, Tryz.ntmps22
  go_wp2_with fail
  refine (zeros_any 256 (by decide) _).mono ?_
  rintro e w1 ⟨rfl, hb1⟩
  rw [← HZ.out]
  go_wp2_with fail
  go_ret
  exact ⟨rfl, hb1⟩
theorem rawF_len (s : ByteArray) : (rawF s).size ≤ maxLen := by
  unfold rawF maxLen
  rw [ByteArray.size_extract]
  omega
end Go.Proofs.YtcakellhellddaaGreatDoor
