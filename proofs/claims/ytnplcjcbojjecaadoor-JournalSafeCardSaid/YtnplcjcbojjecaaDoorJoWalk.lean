import Derived.Test.YtnplcjcbojjecaaDoorJoWakes
set_option linter.unusedSimpArgs false
set_option linter.unusedVariables false
namespace Go.Proofs.YtnplcjcbojjecaaDoor
open Go.RowKit
/-- A disk and a journal that a statement has made. -/
structure JS (w : World) (b mb : Nat) (m : DM) (j : JM) (num jb : Nat) (v : Value) (wr : World) : Prop where
  on : Loose m j num
  md : m.dead = false
  ma : m.armed = false
  jd : j.dead = false
  disk : DiskAt wr b mb m
  jo : JAt wr jb b v j
  b0 : w.heap.size ≤ b
  mb0 : w.heap.size ≤ mb
  jb0 : w.heap.size ≤ jb
  v0 : ∀ k, v.ownBlock = some k → w.heap.size ≤ k
  bel : Below w.heap.size w wr
/-- The blocks that a call of the journal's may turn. -/
def owned (b mb jb : Nat) (v : Value) (k : Nat) : Prop := own2 b mb k ∨ k = jb ∨ v.ownBlock = some k
section
variable {w wr wr' : World} {b mb num jb : Nat} {m : DM} {j : JM} {v : Value}
theorem JS.below (h : JS w b mb m j num jb v wr) (hb : Below wr.heap.size wr wr') : JS w b mb m j num jb v wr' :=
  ⟨h.on, h.md, h.ma, h.jd, h.disk.only (Only.of_below (S := fun _ => False) hb) (fun h => h) (fun h => h), h.jo.grown hb, h.b0, h.mb0, h.jb0, h.v0, h.bel.trans (hb.mono h.bel.size)⟩
theorem JS.young (h : JS w b mb m j num jb v wr) : ∀ k, k < w.heap.size → ¬ owned b mb jb v k := fun k hk ho => by
  rcases ho with (e | e) | e | e
  · have := h.b0; omega
  · have := h.mb0; omega
  · have := h.jb0; omega
  · have := h.v0 k e; omega
theorem JS.old (h : JS w b mb m j num jb v wr) : ∀ k, owned b mb jb v k → k < wr.heap.size := fun k ho => by
  obtain ⟨h1, h2⟩ := h.disk.lt
  rcases ho with (e | e) | e | e
  · omega
  · omega
  · have := h.jo.blk.lt; omega
  · rcases h.jo.row.2 with ⟨rfl, _⟩ | ⟨g, cap, cur, rfl, _, h3, _⟩
    · cases e
    · have hg : g = k := by simpa [Value.ownBlock] using e
      subst hg
      exact lt_of_block h3
theorem JS.only {S : Nat → Prop} (h : JS w b mb m j num jb v wr) (ho : Only S wr wr') (hS : ∀ k, owned b mb jb v k → ¬ S k) (hn : ∀ k, k < w.heap.size → ¬ S k) : JS w b mb m j num jb v wr' :=
  ⟨h.on, h.md, h.ma, h.jd, h.disk.only ho (hS b (.inl (.inl rfl))) (hS mb (.inl (.inr rfl))), h.jo.only ho (hS jb (.inr (.inl rfl))) (fun k hk => hS k (.inr (.inr hk))), h.b0, h.mb0, h.jb0, h.v0, h.bel.trans (ho.below h.bel.size hn)⟩
theorem own_lt {base n s : Nat} {e : TypeId} {x : Value} {xs : List Value} (h : wr.ownsRow base e s x n xs) : ∀ k, x.ownBlock = some k → k < wr.heap.size := fun k hk => by
  rcases h.2 with ⟨rfl, _⟩ | ⟨g, cap, cur, rfl, _, h3, _⟩
  · cases hk
  · have hg : g = k := by simpa [Value.ownBlock] using hk
    subst hg
    exact lt_of_block h3
/-- What an Append, or a Save, leaves. -/
def Out (w : World) (b mb : Nat) (m : DM) (j : JM) (num jb : Nat) (v : Value) (s : ByteArray) (j1 : JM) (num1 : Nat) (room : Nat) (wr : World) (e : Ending) (w' : World) : Prop :=
  ∃ (er : Int) (m' : DM) (j' : JM) (num' : Nat) (v' : Value), e = .returned (.int .i64 er) ∧ JS w b mb m' j' num' jb v' w' ∧ m'.S.length = m.S.length ∧ ((WholeM m → WholeM m') ∧ (Tight m j num → Tight m' j' num')) ∧ Only (owned b mb jb v) wr w' ∧
    (∀ k, owned b mb jb v' k → owned b mb jb v k ∨ wr.heap.size ≤ k) ∧
    ((er = 0 ∧ j' = j1 ∧ num' = num1 ∧ s.size ≤ 60000 ∧ room + sizeN s.size ≤ jsize m) ∨ (er = 73 ∧ j' = j ∧ num' = num ∧ s.size ≤ 60000 ∧ jsize m < room + sizeN s.size) ∨ (er = 2 ∧ j' = j ∧ num' = num ∧ 60000 < s.size))
def more1 (j : JM) (s : ByteArray) : JM := { j with recs := j.recs ++ [s], next := j.next + 1, used := j.used + sizeN s.size }
def save1 (j : JM) (s : ByteArray) : JM := ⟨1 - j.area, s, [], j.next + 1, sizeN s.size, false⟩
theorem js_append (h : JS w b mb m j num jb v wr) (s : ByteArray) (hn : j.next ≤ 2148483648) :
    Calls Tryd.prog 31 #[.pointer (some ⟨jb, 0, none⟩), .string s] wr (Out w b mb m j num jb v s (more1 j s) num j.used wr) := by
  have hnl := h.on.on.nlt
  refine (append_any b mb jb m v j s wr h.disk h.jo (by omega)).mono ?_
  rintro e w' ⟨he, hd, ho, v', hj', hv'⟩
  have hlaw := append_law h.on h.md h.jd s (fun ha => by rw [h.ma] at ha; cases ha)
  have hwh := fun hw : WholeM m => appendF_whole hw h.ma hnl.1 s
  obtain ⟨r, hr, g1, g2, g3⟩ := hlaw
  rw [← hr] at he hd hj' hwh
  have hv0 : ∀ k, v'.ownBlock = some k → w.heap.size ≤ k := fun k hk => by
    rcases hv' k hk with e | e
    · exact h.v0 k e
    · exact Nat.le_trans h.bel.size e
  have hbel := h.bel.trans (ho.below h.bel.size h.young)
  have hown : ∀ k, owned b mb jb v' k → owned b mb jb v k ∨ wr.heap.size ≤ k := fun k hk => by
    rcases hk with e | e | e
    · exact .inl (.inl e)
    · exact .inl (.inr (.inl e))
    · rcases hv' k e with e | e
      · exact .inl (.inr (.inr e))
      · exact .inr e
  rcases g3 with ⟨e1, e2, e3, e4, _, e6, e7, e8, e9, e10⟩ | ⟨e1, e2, e3⟩ | ⟨_, _, e3, _⟩
  · refine ⟨0, r.1, r.2.1, num, v', by rw [he, e1], ⟨⟨e8, fun i hi => ?_⟩, e3, e4 h.ma, by rw [e6]; exact h.jd, hd, hj', h.b0, h.mb0, h.jb0, hv0, hbel⟩, g1, ⟨hwh, fun ht => ⟨e8, fun i hi => ?_, ?_⟩⟩, ho, hown, .inl ⟨rfl, e6, rfl, e2, e7⟩⟩
    · have := e9 i (by omega)
      rw [e6]; show _ ≤ j.next + 1; omega
    · have := e9 i (by omega)
      rw [e6]; show _ < j.next + 1; omega
    · rw [e6]; show tail4 (r.1.at (1 - j.area)) < num
      rw [e10]; exact ht.oth
  · refine ⟨r.2.2, r.1, r.2.1, num, v', he, ?_, g1, ⟨hwh, fun ht => by rw [e2, e3]; exact ht⟩, ho, hown, ?_⟩
    · rw [e2] at hd ⊢; rw [e3] at hj' ⊢
      exact ⟨h.on, h.md, h.ma, h.jd, hd, hj', h.b0, h.mb0, h.jb0, hv0, hbel⟩
    · rcases e1 with ⟨e1, h2⟩ | ⟨e1, h2⟩
      · exact .inr (.inr ⟨e1, e3, rfl, h2⟩)
      · by_cases hs : s.size ≤ 60000
        · exact .inr (.inl ⟨e1, e3, rfl, hs, h2 hs hn⟩)
        · exfalso
          rw [hr] at e1
          have hmay : (j.may s ((jsize m : Int) - (j.used : Int))).2 = 2 := by
            unfold JM.may fitsF; rw [h.jd]; simp only [Bool.false_eq_true, if_false, if_pos (show 60000 < s.size by omega)]; simp
          unfold appendF at e1
          rw [if_pos (by rw [hmay]; decide)] at e1
          rw [hmay] at e1
          exact absurd e1 (by decide)
  · rw [h.ma] at e3; cases e3
theorem js_save (h : JS w b mb m j num jb v wr) (s : ByteArray) (hn : j.next ≤ 2148483648) :
    Calls Tryd.prog 33 #[.pointer (some ⟨jb, 0, none⟩), .string s] wr (Out w b mb m j num jb v s (save1 j s) j.next 0 wr) := by
  have hnl := h.on.on.nlt
  refine (save_any b mb jb m v j s wr h.disk h.jo).mono ?_
  rintro e w' ⟨he, hd, ho, v', hj', hv'⟩
  have hlaw := save_law h.on h.md h.jd s (fun ha => by rw [h.ma] at ha; cases ha)
  have hwh := fun hw : WholeM m => saveF_whole hw h.ma hnl.1 s
  obtain ⟨r, hr, g1, g2, g3⟩ := hlaw
  rw [← hr] at he hd hj' hwh
  have hv0 : ∀ k, v'.ownBlock = some k → w.heap.size ≤ k := fun k hk => by
    rcases hv' k hk with e | e
    · exact h.v0 k e
    · exact Nat.le_trans h.bel.size e
  have hbel := h.bel.trans (ho.below h.bel.size h.young)
  have hown : ∀ k, owned b mb jb v' k → owned b mb jb v k ∨ wr.heap.size ≤ k := fun k hk => by
    rcases hk with e | e | e
    · exact .inl (.inl e)
    · exact .inl (.inr (.inl e))
    · rcases hv' k e with e | e
      · exact .inl (.inr (.inr e))
      · exact .inr e
  rcases g3 with ⟨e1, e2, e3, e4, e6, e7, e8, e9, e10⟩ | ⟨e1, e2, e3⟩ | ⟨_, _, e3, _⟩
  · refine ⟨0, r.1, r.2.1, j.next, v', by rw [he, e1], ⟨⟨e8, fun i hi => ?_⟩, e3, e4 h.ma, by rw [e6], hd, hj', h.b0, h.mb0, h.jb0, hv0, hbel⟩, g1, ⟨hwh, fun ht => ⟨e8, fun i hi => ?_, ?_⟩⟩, ho, hown, .inl ⟨rfl, e6, rfl, e2, by omega⟩⟩
    · have := e9 i (by omega)
      rw [e6]; show _ ≤ j.next + 1; omega
    · have := e9 i (by omega)
      rw [e6]; show _ < j.next + 1; omega
    · have := h.on.on.area
      rw [e6]; show tail4 (r.1.at (1 - (1 - j.area))) < j.next
      rw [show 1 - (1 - j.area) = j.area by omega]; exact e10
  · refine ⟨r.2.2, r.1, r.2.1, num, v', he, ?_, g1, ⟨hwh, fun ht => by rw [e2, e3]; exact ht⟩, ho, hown, ?_⟩
    · rw [e2] at hd ⊢; rw [e3] at hj' ⊢
      exact ⟨h.on, h.md, h.ma, h.jd, hd, hj', h.b0, h.mb0, h.jb0, hv0, hbel⟩
    · rcases e1 with ⟨e1, h2⟩ | ⟨e1, h2⟩
      · exact .inr (.inr ⟨e1, e3, rfl, h2⟩)
      · by_cases hs : s.size ≤ 60000
        · exact .inr (.inl ⟨e1, e3, rfl, hs, by have := h2 hs hn; omega⟩)
        · exfalso
          rw [hr] at e1
          have hmay : (j.may s (jsize m : Int)).2 = 2 := by
            unfold JM.may fitsF; rw [h.jd]; simp only [Bool.false_eq_true, if_false, if_pos (show 60000 < s.size by omega)]; simp
          unfold saveF at e1
          rw [if_pos (by rw [hmay]; decide)] at e1
          rw [hmay] at e1
          exact absurd e1 (by decide)
  · rw [h.ma] at e3; cases e3
/-- What an Open leaves. -/
theorem js_open (h : JS w b mb m j num jb v wr) :
    Calls Tryd.prog 35 #[.pointer (some ⟨b, 0, none⟩)] wr fun e w' => ∃ jb' v', e = .returned (.tuple #[.pointer (some ⟨jb', 0, none⟩), .int .i64 0]) ∧ JS w b mb m j num jb' v' w' ∧ Below wr.heap.size wr w' ∧ (∀ k, owned b mb jb' v' k → own2 b mb k ∨ wr.heap.size ≤ k) := by
  refine (jopen_any b mb m wr h.disk).mono ?_
  rintro e w' hp
  have hjd := h.jd
  rw [h.on.on.opens h.md] at hp
  obtain ⟨hb, jb', v', he, hj', h1, h2⟩ := hp
  have hje : ({ j with dead := false } : JM) = j := by cases j; cases hjd; rfl
  rw [hje] at hj'
  have h' := h.below hb
  refine ⟨jb', v', he, ⟨h.on, h.md, h.ma, h.jd, h'.disk, hj', h.b0, h.mb0, Nat.le_trans h.bel.size h1, fun k hk => Nat.le_trans h.bel.size (h2 k hk), h'.bel⟩, hb, fun k hk => ?_⟩
  rcases hk with e | e | e
  · exact .inl e
  · exact .inr (by omega)
  · exact .inr (h2 k e)
/-- A disk that is formatted anew. -/
theorem js_format (hd : DiskAt wr b mb m) (hm : m.dead = false) (ha : m.armed = false) (hw : WholeM m) (ht : topN m m.S.length ≤ 2147483648) (hz : jsize m ≠ 0) (base : ByteArray) (hs : base.size ≤ 60000) (hroom : sizeN base.size ≤ jsize m)
    (b0 : w.heap.size ≤ b) (mb0 : w.heap.size ≤ mb) (bel : Below w.heap.size w wr) :
    Calls Tryd.prog 28 #[.pointer (some ⟨b, 0, none⟩), .string base] wr fun e w' => ∃ r jb, e = .returned (.tuple #[.pointer (some ⟨jb, 0, none⟩), .int .i64 0]) ∧
      JS w b mb r ⟨0, base, [], topN m m.S.length + 2, sizeN base.size, false⟩ (topN m m.S.length + 1) jb (.slice none 0 0) w' ∧ r.S.length = m.S.length ∧ WholeM r ∧ Tight r ⟨0, base, [], topN m m.S.length + 2, sizeN base.size, false⟩ (topN m m.S.length + 1) ∧
      Only (own2 b mb) wr w' ∧ wr.heap.size ≤ jb := by
  refine (format_any b mb m base wr hd).mono ?_
  rintro e w' hp
  obtain ⟨r, f1, f2, f3, f4, _, f5, f6⟩ := format_law hd.wf hz hm ha base hs hroom hw ht
  rw [f1] at hp
  obtain ⟨hd', ho, jb, he, hj, hlj⟩ := hp
  exact ⟨r, jb, he, ⟨f5.loose, f3, f4, rfl, hd', hj, b0, mb0, Nat.le_trans bel.size hlj, (fun k hk => by cases hk), bel.trans (ho.below bel.size (fun k hk h => by rcases h with h | h <;> omega))⟩, f2, f6, f5, ho, hlj⟩
end
end Go.Proofs.YtnplcjcbojjecaaDoor
