import Derived.Test.YtimiehnknehagaaSumP
import Derived.Test.YtimiehnknehagaaIdx2
set_option linter.unusedSimpArgs false
set_option linter.unusedVariables false
namespace Go.Proofs.Ytimiehnknehagaa
open Go.RowKit
/-! entry.Add. -/
abbrev Ent := Int × Int × Int
def keyE (x : Ent) : Int × Int := (x.1, x.2.1)
def updK (M : Int × Int → Option Int) (k : Int × Int) (d : Int) : Int × Int → Option Int := fun j => if j = k then some d else M j
/-- Entries put together one behind the other, or that a sum goes beyond. -/
def addL : (Int × Int → Option Int) → List Ent → Option (Int × Int → Option Int)
  | M, [] => some M
  | M, x :: xs => if in64 ((M (keyE x)).getD 0 + x.2.2) then addL (updK M (keyE x) ((M (keyE x)).getD 0 + x.2.2)) xs else none
theorem addL_append : ∀ (a b : List Ent) (M : Int × Int → Option Int), addL M (a ++ b) = (addL M a).bind fun M' => addL M' b
  | [], b, M => rfl
  | x :: a, b, M => by
    show (if _ then addL _ (a ++ b) else none) = (if _ then addL _ a else none).bind _
    split
    · exact addL_append a b _
    · rfl
theorem addL_snoc {a : List Ent} {M M' : Int × Int → Option Int} (h : addL M a = some M') (x : Ent) : addL M (a ++ [x]) = if in64 ((M' (keyE x)).getD 0 + x.2.2) then some (updK M' (keyE x) ((M' (keyE x)).getD 0 + x.2.2)) else none := by
  rw [addL_append, h]
  show (if _ then some _ else none) = _
  rfl
theorem addL_none {a b : List Ent} {M : Int × Int → Option Int} (h : addL M a = none) : addL M (a ++ b) = none := by rw [addL_append, h]; rfl
/-- Every value fits, every key comes from an entry. -/
def okM (M : Int × Int → Option Int) (ks : List (Int × Int)) : Prop := (∀ k d, M k = some d → in64 d) ∧ ∀ k, (M k).isSome = true → k ∈ ks
theorem okM.get {M : Int × Int → Option Int} {ks : List (Int × Int)} (h : okM M ks) (k : Int × Int) : in64 ((M k).getD 0) := by
  cases hk : M k with
  | none => unfold in64; simp
  | some d => exact h.1 k d hk
theorem okM.upd {M : Int × Int → Option Int} {ks : List (Int × Int)} (h : okM M ks) (k : Int × Int) (d : Int) (hd : in64 d) : okM (updK M k d) (ks ++ [k]) := by
  refine ⟨fun j e he => ?_, fun j hj => ?_⟩
  · unfold updK at he
    split at he
    · obtain rfl := Option.some.inj he; exact hd
    · exact h.1 j e he
  · unfold updK at hj
    split at hj
    · rename_i e; rw [e]; simp
    · exact List.mem_append.2 (.inl (h.2 j hj))
theorem nodup_le {α : Type} [DecidableEq α] : ∀ {l m : List α}, l.Nodup → (∀ x ∈ l, x ∈ m) → l.length ≤ m.length
  | [], _, _, _ => Nat.zero_le _
  | x :: l, m, h, hs => by
    rw [List.nodup_cons] at h
    have hx := hs x (by simp)
    have := nodup_le (l := l) (m := m.erase x) h.2 (fun y hy => (List.mem_erase_of_ne (fun e => h.1 (by rw [← e]; exact hy))).2 (hs y (by simp [hy])))
    rw [List.length_erase_of_mem hx] at this
    have := List.length_pos_of_mem hx
    simp only [List.length_cons]; omega
theorem okM.count {M : Int × Int → Option Int} {ks : List (Int × Int)} (h : okM M ks) : ∀ l : List (Int × Int), l.Nodup → (∀ k ∈ l, (M k).isSome = true) → l.length ≤ ks.length := fun l h1 h2 =>
  nodup_le h1 (fun k hk => h.2 k (h2 k hk))
theorem valK_upd (M : Int × Int → Option Int) (k : Int × Int) (d : Int) : (fun j => if j = k then some (Value.int .i64 d) else valK M j) = valK (updK M k d) := by
  funext j
  unfold valK updK
  split <;> rfl
theorem encE_cell {w : World} {ad : Option Addr} {l : List Ent} (h : SrcAt encE 3 w ad l) (i : Nat) (x : Ent) (hx : l[i]? = some x) : ∃ b o, ad = some ⟨b, o, none⟩ ∧ b < w.heap.size ∧ w.cell? ⟨b, o + i * 3, none⟩ = some (.int .i64 x.1) ∧ w.cell? ⟨b, o + i * 3 + 1, none⟩ = some (.int .i64 x.2.1) ∧ w.cell? ⟨b, o + i * 3 + 2, none⟩ = some (.int .i64 x.2.2) := by
  obtain ⟨b, o, rfl, hb, hc⟩ := h (by have := (List.getElem?_eq_some_iff.1 hx).1; omega)
  exact ⟨b, o, rfl, hb, hc i x hx 0 _ rfl, hc i x hx 1 _ rfl, hc i x hx 2 _ rfl⟩
def in64E (x : Ent) : Prop := in64 x.1 ∧ in64 x.2.1 ∧ in64 x.2.2
def AddPost (es : List Ent) (w : World) (e : Ending) (w' : World) : Prop :=
  match addL (fun _ => none) es with
  | none => e = .returned (.tuple #[.slice none 0 0, .int .i64 14]) ∧ Below w.heap.size w w'
  | some M => ∃ v L, e = .returned (.tuple #[v, .int .i64 0]) ∧ SortedKeys (valK M) L ∧ L.length ≤ es.length ∧ w'.ownsRow w.heap.size 52 3 v (tellL M L).length ((tellL M L).flatMap encE) ∧ Below w.heap.size w w'
/-- At the head of the inner loop. -/
structure AddI (w wr : World) (mb : Nat) (pre : List Ent) (M : Int × Int → Option Int) : Prop where
  sum : addL (fun _ => none) pre = some M
  ok : okM M (pre.map keyE)
  map : MapIs wr encK mb (valK M)
  mb0 : w.heap.size ≤ mb
  bel : Below w.heap.size w wr
set_option maxRecDepth 100000 in
set_option maxHeartbeats 4000000 in
theorem add_any (vl vm : Value) (l more : List Ent) (hn : l.length + more.length ≤ 1000000) (w : World) (hl : RowsAt encE 3 w vl l) (hm : RowsAt encE 3 w vm more) (il : ∀ x ∈ l, in64E x) (im : ∀ x ∈ more, in64E x) :
    Calls Try.prog 16 #[vl, vm] w (AddPost (l ++ more) w) := by
  obtain ⟨adl, cl, rfl, hl1, hl2, hls⟩ := hl
  obtain ⟨adm, cm, rfl, hm1, hm2, hms⟩ := hm
  obtain ⟨nl, hnl⟩ : ∃ n, n = l.length := ⟨_, rfl⟩
  obtain ⟨nm, hnm⟩ : ∃ n, n = more.length := ⟨_, rfl⟩
  rw [← hnl] at hn hl1 hl2 ⊢
  rw [← hnm] at hn hm1 hm2 ⊢
  have HNL := Lib.hid hnl
  have HNM := Lib.hid hnm
  have HSL := Lib.hid hls
  have HSM := Lib.hid hms
  have HIL := Lib.hid il
  have HIM := Lib.hid im
  clear hnl hnm hls hms il im
  have hmm := @run_makeMap Try.prog
  obtain ⟨i0, hi0, hi1⟩ : ∃ i, Try.prog.info? 28 = some i ∧ i.size = 1 := by
    have h := (show (Try.prog.info? 28).map (fun i => i.size) = some 1 by kernel_rfl)
    cases hq : Try.prog.info? 28 with
    | none => rw [hq] at h; cases h
    | some i => rw [hq] at h; exact ⟨i, rfl, by simpa using h⟩
  have hix0 := fun w => (run_index2 (P := Try.prog) (T := 73) (e := 28) (by kernel_rfl) sl_ent rfl hi0 hi1 (.slice adl nl cl) (.slice adm nm cm) w).1
  have hix1 := fun w => (run_index2 (P := Try.prog) (T := 73) (e := 28) (by kernel_rfl) sl_ent rfl hi0 hi1 (.slice adl nl cl) (.slice adm nm cm) w).2
  clear hi0 hi1
  obtain ⟨mb, hmb⟩ : ∃ mb, mb = w.heap.size := ⟨_, rfl⟩
  have HA : Hid (AddI w (w.alloc (.map #[] 0)) mb ([] : List Ent) (fun _ => none)) := Lib.hid (by
    refine ⟨rfl, ⟨(fun k d h => by cases h), (fun k h => by cases h)⟩, ?_, by omega, (Below.refl _ w).alloc (Nat.le_refl _) _⟩
    have := MapIs.new w encK
    rw [← hmb] at this
    exact this)
  have HMB := Lib.hid hmb
  clear hmb
  go_enter Try.func16, Try.ntmps16
  go_wp2_with fail
  rw [← HMB.out]
  obtain ⟨w0, hw0⟩ : ∃ w0, w0 = w.alloc (.map #[] 0) := ⟨_, rfl⟩
  rw [← hw0] at HA ⊢
  clear hw0
  refine wp_loop_rounds 3 ?_
  rw [rounds_succ]
  go_wp2_with fail
  go_loopw [22] (fun x wr => ∃ (i : Nat) (M : Int × Int → Option Int), i ≤ nl ∧ x = .int .i64 i ∧ AddI w wr mb ([] ++ l.take i) M) (fun x _ => nl - (intOf x).toNat)
  case atStart => exact ⟨0, _, Nat.zero_le _, rfl, by simpa using HA.out⟩
  case round =>
    obtain ⟨i, M, hi, rfl, hA⟩ := hrel
    have HA := Lib.hid hA
    clear hA
    by_cases hlt : i < nl
    · have g1 : (i : Int) < (nl : Int) := by omega
      obtain ⟨x, hx⟩ : ∃ x, l[i]? = some x := ⟨l[i]'(by have := HNL.out; omega), List.getElem?_eq_getElem _⟩
      obtain ⟨be, oe, rfl, hbe, e0, e1, e2⟩ := encE_cell HSL.out i x hx
      have hin : in64 x.2.2 := (HIL.out x (List.mem_of_getElem? hx)).2.2
      have hsum := sum_any ((M (keyE x)).getD 0) x.2.2 (HA.out.ok.get _) hin
      have HX := Lib.hid hx
      have f0 : wr.cell? ⟨be, oe + i * 3, none⟩ = some (.int .i64 x.1) := (HA.out.bel.cell (p := ⟨be, oe + i * 3, none⟩) hbe).trans e0
      have f1 : wr.cell? ⟨be, oe + i * 3 + 1, none⟩ = some (.int .i64 x.2.1) := (HA.out.bel.cell (p := ⟨be, oe + i * 3 + 1, none⟩) hbe).trans e1
      have f2 : wr.cell? ⟨be, oe + i * 3 + 2, none⟩ = some (.int .i64 x.2.2) := (HA.out.bel.cell (p := ⟨be, oe + i * 3 + 2, none⟩) hbe).trans e2
      clear e0 e1 e2 hx
      obtain ⟨k1, k2, d⟩ := x
      dsimp only at f0 f1 f2 hin hsum
      have hlook := look_run HA.out.map k1 k2
      obtain ⟨m, hm⟩ : ∃ m, m = (M (k1, k2)).getD 0 := ⟨_, rfl⟩
      have hmk : Hid ((M (keyE (k1, k2, d))).getD 0 = m) := Lib.hid hm.symm
      rw [hmk.out] at hsum
      rw [← hm] at hlook
      have HSUM := Lib.hid hsum
      have HLOOK := Lib.hid hlook
      have HM := Lib.hid hm
      have hst : Hid ([] ++ l.take (i + 1) = ([] ++ l.take i) ++ [(k1, k2, d)]) := Lib.hid (by rw [List.take_add_one, HX.out, List.append_assoc]; rfl)
      have hsn := addL_snoc HA.out.sum (k1, k2, d)
      rw [hmk.out, ← hst.out] at hsn
      have HSN := Lib.hid hsn
      clear hsum hlook hm hsn
      go_wp2_with fail
      have hb4 : Below wr.heap.size wr (wr.alloc (.cells #[.int .i64 k1, .int .i64 k2, .int .i64 d] 52)) := (Below.refl _ wr).alloc (Nat.le_refl _) _
      have hk4 : Blk (wr.alloc (.cells #[.int .i64 k1, .int .i64 k2, .int .i64 d] 52)) wr.heap.size #[.int .i64 k1, .int .i64 k2, .int .i64 d] 52 := Blk.new _ _ _
      revert hb4 hk4
      generalize wr.alloc (.cells #[.int .i64 k1, .int .i64 k2, .int .i64 d] 52) = w4
      intro hb4 hk4
      have HK4 := Lib.hid hk4
      have HM4 := Lib.hid (HA.out.map.of_block (hb4.block mb HA.out.map.lt))
      have HB4 := Lib.hid (HA.out.bel.trans (hb4.mono HA.out.bel.size))
      have hmw := HA.out.map.lt
      have hl4 := look_run (HM4.out.of_block (w' := w4.drew) rfl) k1 k2
      rw [← HM.out] at hl4
      clear hb4 hk4 f0 f1 f2
      refine wp_region_held_drew (S := fun w' => w'.cell? ⟨wr.heap.size, 0, none⟩ = some (.int .i64 k1) ∧ w'.cell? ⟨wr.heap.size, 1, none⟩ = some (.int .i64 k2) ∧ w'.cell? ⟨wr.heap.size, 2, none⟩ = some (.int .i64 d) ∧ (Instr.lookup 60 (.map (some mb)) (.agg #[.int .i64 k1, .int .i64 k2]) false).run Try.prog w' = .ok (.int .i64 m) w') (by kernel_rfl) ⟨HK4.out.cell 0, HK4.out.cell 1, HK4.out.cell 2, hl4⟩ (fun hHeld => ?_)
      refine take_op 0 (some 27) (v := ?_) rfl rfl (by kernel_rfl) (by kernel_rfl) (by kernel_rfl) (fun _ _ _ h => h) (Or.inl ⟨by rfl, ?_⟩) (by assumption) ?_
      rotate_left
      · intro w_ hSw_; (try dsimp only at hSw_); go_simp; (try with_reducible rfl)
      try simp only [Act.put, List.setIfInBounds_toArray, List.set_cons_zero, List.set_cons_succ]
      refine take_op 1 (some 28) (v := ?_) rfl rfl (by kernel_rfl) (by kernel_rfl) (by kernel_rfl) (fun _ _ _ h => h) (Or.inl ⟨by rfl, ?_⟩) (by assumption) ?_
      rotate_left
      · intro w_ hSw_; (try dsimp only at hSw_); go_simp; (try with_reducible rfl)
      try simp only [Act.put, List.setIfInBounds_toArray, List.set_cons_zero, List.set_cons_succ]
      refine take_op 2 (some 29) (v := ?_) rfl rfl (by kernel_rfl) (by kernel_rfl) (by kernel_rfl) (fun _ _ _ h => h) (Or.inl ⟨by rfl, ?_⟩) (by assumption) ?_
      rotate_left
      · intro w_ hSw_; (try dsimp only at hSw_); go_simp; (try with_reducible rfl)
      try simp only [Act.put, List.setIfInBounds_toArray, List.set_cons_zero, List.set_cons_succ]
      refine take_op 3 (some 30) (v := ?_) rfl rfl (by kernel_rfl) (by kernel_rfl) (by kernel_rfl) (fun _ _ _ h => h) (Or.inl ⟨by rfl, ?_⟩) (by assumption) ?_
      rotate_left
      · intro w_ hSw_; (try dsimp only at hSw_); go_simp; (try with_reducible rfl)
      try simp only [Act.put, List.setIfInBounds_toArray, List.set_cons_zero, List.set_cons_succ]
      refine take_op 4 (some 31) (v := ?_) rfl rfl (by kernel_rfl) (by kernel_rfl) (by kernel_rfl) (fun _ _ _ h => h) (Or.inl ⟨by rfl, ?_⟩) (by assumption) ?_
      rotate_left
      · intro w_ hSw_; (try dsimp only at hSw_); go_simp; (try with_reducible rfl)
      try simp only [Act.put, List.setIfInBounds_toArray, List.set_cons_zero, List.set_cons_succ]
      refine take_op 5 (some 32) (v := ?_) rfl rfl (by kernel_rfl) (by kernel_rfl) (by kernel_rfl) (fun _ _ _ h => h) (Or.inl ⟨by rfl, ?_⟩) (by assumption) ?_
      rotate_left
      · intro w_ hSw_; (try dsimp only at hSw_); go_simp; (try with_reducible rfl)
      try simp only [Act.put, List.setIfInBounds_toArray, List.set_cons_zero, List.set_cons_succ]
      refine take_op 6 (some 33) (v := ?_) rfl rfl (by kernel_rfl) (by kernel_rfl) (by kernel_rfl) (fun _ _ _ h => h) (Or.inl ⟨by rfl, ?_⟩) (by assumption) ?_
      rotate_left
      · intro w_ hSw_; (try dsimp only at hSw_); go_simp; (try with_reducible rfl)
      try simp only [Act.put, List.setIfInBounds_toArray, List.set_cons_zero, List.set_cons_succ]
      refine take_op 7 (some 34) (v := ?_) rfl rfl (by kernel_rfl) (by kernel_rfl) (by kernel_rfl) (fun _ _ _ h => h) (Or.inl ⟨by rfl, ?_⟩) (by assumption) ?_
      rotate_left
      · intro w_ hSw_; (try dsimp only at hSw_); go_simp; (try with_reducible rfl)
      try simp only [Act.put, List.setIfInBounds_toArray, List.set_cons_zero, List.set_cons_succ]
      refine take_op 8 (some 35) (v := ?_) rfl rfl (by kernel_rfl) (by kernel_rfl) (by kernel_rfl) (fun _ _ _ h => h) (Or.inl ⟨by rfl, ?_⟩) (by assumption) ?_
      rotate_left
      · intro w_ hSw_; (try dsimp only at hSw_); go_simp; (try with_reducible rfl)
      try simp only [Act.put, List.setIfInBounds_toArray, List.set_cons_zero, List.set_cons_succ]
      refine go_op 9 rfl (by kernel_rfl) (fun K_ hK_ => ?_)
      go_simp
      refine (HSUM.out _).mono ?_
      rintro e w5 ⟨rfl, hw5⟩
      have hw5 := hw5.symm
      subst hw5
      refine hK_.out _ _ ?_ (fun hHeld_ => ?_)
      · exact hHeld
      by_cases hin2 : in64 (m + d)
      · have hdec : decide (in64 (m + d)) = true := by simpa using hin2
        rw [hdec, wrap_in64 hin2]
        have HIN := Lib.hid hin2
        clear hin2 hdec
        refine take_op 10 (some 26) (v := ?_) rfl rfl (by kernel_rfl) (by kernel_rfl) (by kernel_rfl) (fun _ _ _ h => h) (Or.inl ⟨by rfl, ?_⟩) (by assumption) ?_
        rotate_left
        · intro w_ hSw_; (try dsimp only at hSw_); go_simp; (try with_reducible rfl)
        try simp only [Act.put, List.setIfInBounds_toArray, List.set_cons_zero, List.set_cons_succ]
        refine take_op 11 (some 37) (v := ?_) rfl rfl (by kernel_rfl) (by kernel_rfl) (by kernel_rfl) (fun _ _ _ h => h) (Or.inl ⟨by rfl, ?_⟩) (by assumption) ?_
        rotate_left
        · intro w_ hSw_; (try dsimp only at hSw_); go_simp; (try with_reducible rfl)
        try simp only [Act.put, List.setIfInBounds_toArray, List.set_cons_zero, List.set_cons_succ]
        refine take_op 12 (some 38) (v := ?_) rfl rfl (by kernel_rfl) (by kernel_rfl) (by kernel_rfl) (fun _ _ _ h => h) (Or.inl ⟨by rfl, ?_⟩) (by assumption) ?_
        rotate_left
        · intro w_ hSw_; (try dsimp only at hSw_); go_simp; (try with_reducible rfl)
        try simp only [Act.put, List.setIfInBounds_toArray, List.set_cons_zero, List.set_cons_succ]
        refine take_op 13 (some 11) (v := ?_) rfl rfl (by kernel_rfl) (by kernel_rfl) (by kernel_rfl) (fun _ _ _ h => h) (Or.inl ⟨by rfl, ?_⟩) (by assumption) ?_
        rotate_left
        · intro w_ hSw_; (try dsimp only at hSw_); go_simp; (try with_reducible rfl)
        try simp only [Act.put, List.setIfInBounds_toArray, List.set_cons_zero, List.set_cons_succ]
        refine take_op 14 (some 12) (v := ?_) rfl rfl (by kernel_rfl) (by kernel_rfl) (by kernel_rfl) (fun _ _ _ h => h) (Or.inl ⟨by rfl, ?_⟩) (by assumption) ?_
        rotate_left
        · intro w_ hSw_; (try dsimp only at hSw_); go_simp; (try with_reducible rfl)
        try simp only [Act.put, List.setIfInBounds_toArray, List.set_cons_zero, List.set_cons_succ]
        refine wpAnyH_done (by kernel_rfl) ?_ _
        clear hHeld hHeld_ hl4
        have c0 : w4.drew.cell? ⟨wr.heap.size, 0, none⟩ = some (.int .i64 k1) := HK4.out.cell 0
        have c1 : w4.drew.cell? ⟨wr.heap.size, 1, none⟩ = some (.int .i64 k2) := HK4.out.cell 1
        have HM5 := Lib.hid (HM4.out.of_block (w' := w4.drew) rfl)
        have HB5 := Lib.hid HB4.out.drew
        have HK5 : Hid (wr.heap.size < w4.drew.heap.size) := Lib.hid HK4.out.lt
        go_wp2_with (first | ((with_reducible refine at_mapPut KK mapkey_u HM5.out (k1, k2) (.int .i64 (m + d)) ?_ ?_ ?_ ?_); exact rfl; exact rfl; exact rfl; intro w6 hm6 ho6 hs6) | fail)
        go_roundw
        case rel =>
          refine ⟨i + 1, _, by omega, by go_num, ⟨by rw [HSN.out, if_pos HIN.out], ?_, ?_, HA.out.mb0, HB5.out.trans (ho6.below HB5.out.size (fun k hk e => by have := HA.out.mb0; omega))⟩⟩
          · rw [hst.out, List.map_append]
            exact HA.out.ok.upd _ _ HIN.out
          · rw [valK_upd] at hm6
            exact hm6
        case measure => simp [intOf]; omega
      · have hdec : decide (in64 (m + d)) = false := by simpa using hin2
        rw [hdec]
        have HIN := Lib.hid hin2
        clear hin2 hdec
        refine take_op 10 (some 26) (v := ?_) rfl rfl (by kernel_rfl) (by kernel_rfl) (by kernel_rfl) (fun _ _ _ h => h) (Or.inl ⟨by rfl, ?_⟩) (by assumption) ?_
        rotate_left
        · intro w_ hSw_; (try dsimp only at hSw_); go_simp; (try with_reducible rfl)
        try simp only [Act.put, List.setIfInBounds_toArray, List.set_cons_zero, List.set_cons_succ]
        refine take_op 11 (some 37) (v := ?_) rfl rfl (by kernel_rfl) (by kernel_rfl) (by kernel_rfl) (fun _ _ _ h => h) (Or.inl ⟨by rfl, ?_⟩) (by assumption) ?_
        rotate_left
        · intro w_ hSw_; (try dsimp only at hSw_); go_simp; (try with_reducible rfl)
        try simp only [Act.put, List.setIfInBounds_toArray, List.set_cons_zero, List.set_cons_succ]
        refine take_op 12 (some 38) (v := ?_) rfl rfl (by kernel_rfl) (by kernel_rfl) (by kernel_rfl) (fun _ _ _ h => h) (Or.inl ⟨by rfl, ?_⟩) (by assumption) ?_
        rotate_left
        · intro w_ hSw_; (try dsimp only at hSw_); go_simp; (try with_reducible rfl)
        try simp only [Act.put, List.setIfInBounds_toArray, List.set_cons_zero, List.set_cons_succ]
        refine take_op 13 (some 11) (v := ?_) rfl rfl (by kernel_rfl) (by kernel_rfl) (by kernel_rfl) (fun _ _ _ h => h) (Or.inl ⟨by rfl, ?_⟩) (by assumption) ?_
        rotate_left
        · intro w_ hSw_; (try dsimp only at hSw_); go_simp; (try with_reducible rfl)
        try simp only [Act.put, List.setIfInBounds_toArray, List.set_cons_zero, List.set_cons_succ]
        refine take_op 14 (some 12) (v := ?_) rfl rfl (by kernel_rfl) (by kernel_rfl) (by kernel_rfl) (fun _ _ _ h => h) (Or.inl ⟨by rfl, ?_⟩) (by assumption) ?_
        rotate_left
        · intro w_ hSw_; (try dsimp only at hSw_); go_simp; (try with_reducible rfl)
        try simp only [Act.put, List.setIfInBounds_toArray, List.set_cons_zero, List.set_cons_succ]
        refine wpAnyH_done (by kernel_rfl) ?_ _
        clear hHeld hHeld_ hl4
        go_wp2_with fail
        go_ret2
        have hno : addL (fun _ => none) (l ++ more) = none := by
          have h1 : addL (fun _ => none) ([] ++ l.take (i + 1)) = none := by rw [HSN.out, if_neg HIN.out]
          have h2 : l ++ more = ([] ++ l.take (i + 1)) ++ (l.drop (i + 1) ++ more) := by
            rw [List.nil_append, ← List.append_assoc, List.take_append_drop]
          rw [h2]; exact addL_none h1
        unfold AddPost
        rw [hno]
        exact ⟨rfl, HB4.out.drew⟩
    · have g1 : ¬ (i : Int) < (nl : Int) := by omega
      have hin : i = nl := by omega
      subst hin
      have hall : l.take i = l := by rw [HNL.out]; exact List.take_length
      rw [hall] at HA
      clear hall
      rw [List.nil_append] at HA
      go_wp2_with fail
      rw [rounds_succ]
      go_wp2_with fail
      rw [HNM.out]
      rw [← HNM.out]
      go_loopw [22] (fun x wr => ∃ (i : Nat) (M : Int × Int → Option Int), i ≤ nm ∧ x = .int .i64 i ∧ AddI w wr mb (l ++ more.take i) M) (fun x _ => nm - (intOf x).toNat)
      case atStart => exact ⟨0, _, Nat.zero_le _, rfl, by simpa using HA.out⟩
      case round =>
        obtain ⟨i, M, hi, rfl, hA⟩ := hrel
        have HA := Lib.hid hA
        clear hA
        by_cases hlt : i < nm
        · have g1 : (i : Int) < (nm : Int) := by omega
          obtain ⟨x, hx⟩ : ∃ x, more[i]? = some x := ⟨more[i]'(by have := HNM.out; omega), List.getElem?_eq_getElem _⟩
          obtain ⟨be, oe, rfl, hbe, e0, e1, e2⟩ := encE_cell HSM.out i x hx
          have hin : in64 x.2.2 := (HIM.out x (List.mem_of_getElem? hx)).2.2
          have hsum := sum_any ((M (keyE x)).getD 0) x.2.2 (HA.out.ok.get _) hin
          have HX := Lib.hid hx
          have f0 : wr.cell? ⟨be, oe + i * 3, none⟩ = some (.int .i64 x.1) := (HA.out.bel.cell (p := ⟨be, oe + i * 3, none⟩) hbe).trans e0
          have f1 : wr.cell? ⟨be, oe + i * 3 + 1, none⟩ = some (.int .i64 x.2.1) := (HA.out.bel.cell (p := ⟨be, oe + i * 3 + 1, none⟩) hbe).trans e1
          have f2 : wr.cell? ⟨be, oe + i * 3 + 2, none⟩ = some (.int .i64 x.2.2) := (HA.out.bel.cell (p := ⟨be, oe + i * 3 + 2, none⟩) hbe).trans e2
          clear e0 e1 e2 hx
          obtain ⟨k1, k2, d⟩ := x
          dsimp only at f0 f1 f2 hin hsum
          have hlook := look_run HA.out.map k1 k2
          obtain ⟨m, hm⟩ : ∃ m, m = (M (k1, k2)).getD 0 := ⟨_, rfl⟩
          have hmk : Hid ((M (keyE (k1, k2, d))).getD 0 = m) := Lib.hid hm.symm
          rw [hmk.out] at hsum
          rw [← hm] at hlook
          have HSUM := Lib.hid hsum
          have HLOOK := Lib.hid hlook
          have HM := Lib.hid hm
          have hst : Hid (l ++ more.take (i + 1) = (l ++ more.take i) ++ [(k1, k2, d)]) := Lib.hid (by rw [List.take_add_one, HX.out, List.append_assoc]; rfl)
          have hsn := addL_snoc HA.out.sum (k1, k2, d)
          rw [hmk.out, ← hst.out] at hsn
          have HSN := Lib.hid hsn
          clear hsum hlook hm hsn
          go_wp2_with fail
          have hb4 : Below wr.heap.size wr (wr.alloc (.cells #[.int .i64 k1, .int .i64 k2, .int .i64 d] 52)) := (Below.refl _ wr).alloc (Nat.le_refl _) _
          have hk4 : Blk (wr.alloc (.cells #[.int .i64 k1, .int .i64 k2, .int .i64 d] 52)) wr.heap.size #[.int .i64 k1, .int .i64 k2, .int .i64 d] 52 := Blk.new _ _ _
          revert hb4 hk4
          generalize wr.alloc (.cells #[.int .i64 k1, .int .i64 k2, .int .i64 d] 52) = w4
          intro hb4 hk4
          have HK4 := Lib.hid hk4
          have HM4 := Lib.hid (HA.out.map.of_block (hb4.block mb HA.out.map.lt))
          have HB4 := Lib.hid (HA.out.bel.trans (hb4.mono HA.out.bel.size))
          have hmw := HA.out.map.lt
          have hl4 := look_run (HM4.out.of_block (w' := w4.drew) rfl) k1 k2
          rw [← HM.out] at hl4
          clear hb4 hk4 f0 f1 f2
          refine wp_region_held_drew (S := fun w' => w'.cell? ⟨wr.heap.size, 0, none⟩ = some (.int .i64 k1) ∧ w'.cell? ⟨wr.heap.size, 1, none⟩ = some (.int .i64 k2) ∧ w'.cell? ⟨wr.heap.size, 2, none⟩ = some (.int .i64 d) ∧ (Instr.lookup 60 (.map (some mb)) (.agg #[.int .i64 k1, .int .i64 k2]) false).run Try.prog w' = .ok (.int .i64 m) w') (by kernel_rfl) ⟨HK4.out.cell 0, HK4.out.cell 1, HK4.out.cell 2, hl4⟩ (fun hHeld => ?_)
          refine take_op 0 (some 27) (v := ?_) rfl rfl (by kernel_rfl) (by kernel_rfl) (by kernel_rfl) (fun _ _ _ h => h) (Or.inl ⟨by rfl, ?_⟩) (by assumption) ?_
          rotate_left
          · intro w_ hSw_; (try dsimp only at hSw_); go_simp; (try with_reducible rfl)
          try simp only [Act.put, List.setIfInBounds_toArray, List.set_cons_zero, List.set_cons_succ]
          refine take_op 1 (some 28) (v := ?_) rfl rfl (by kernel_rfl) (by kernel_rfl) (by kernel_rfl) (fun _ _ _ h => h) (Or.inl ⟨by rfl, ?_⟩) (by assumption) ?_
          rotate_left
          · intro w_ hSw_; (try dsimp only at hSw_); go_simp; (try with_reducible rfl)
          try simp only [Act.put, List.setIfInBounds_toArray, List.set_cons_zero, List.set_cons_succ]
          refine take_op 2 (some 29) (v := ?_) rfl rfl (by kernel_rfl) (by kernel_rfl) (by kernel_rfl) (fun _ _ _ h => h) (Or.inl ⟨by rfl, ?_⟩) (by assumption) ?_
          rotate_left
          · intro w_ hSw_; (try dsimp only at hSw_); go_simp; (try with_reducible rfl)
          try simp only [Act.put, List.setIfInBounds_toArray, List.set_cons_zero, List.set_cons_succ]
          refine take_op 3 (some 30) (v := ?_) rfl rfl (by kernel_rfl) (by kernel_rfl) (by kernel_rfl) (fun _ _ _ h => h) (Or.inl ⟨by rfl, ?_⟩) (by assumption) ?_
          rotate_left
          · intro w_ hSw_; (try dsimp only at hSw_); go_simp; (try with_reducible rfl)
          try simp only [Act.put, List.setIfInBounds_toArray, List.set_cons_zero, List.set_cons_succ]
          refine take_op 4 (some 31) (v := ?_) rfl rfl (by kernel_rfl) (by kernel_rfl) (by kernel_rfl) (fun _ _ _ h => h) (Or.inl ⟨by rfl, ?_⟩) (by assumption) ?_
          rotate_left
          · intro w_ hSw_; (try dsimp only at hSw_); go_simp; (try with_reducible rfl)
          try simp only [Act.put, List.setIfInBounds_toArray, List.set_cons_zero, List.set_cons_succ]
          refine take_op 5 (some 32) (v := ?_) rfl rfl (by kernel_rfl) (by kernel_rfl) (by kernel_rfl) (fun _ _ _ h => h) (Or.inl ⟨by rfl, ?_⟩) (by assumption) ?_
          rotate_left
          · intro w_ hSw_; (try dsimp only at hSw_); go_simp; (try with_reducible rfl)
          try simp only [Act.put, List.setIfInBounds_toArray, List.set_cons_zero, List.set_cons_succ]
          refine take_op 6 (some 33) (v := ?_) rfl rfl (by kernel_rfl) (by kernel_rfl) (by kernel_rfl) (fun _ _ _ h => h) (Or.inl ⟨by rfl, ?_⟩) (by assumption) ?_
          rotate_left
          · intro w_ hSw_; (try dsimp only at hSw_); go_simp; (try with_reducible rfl)
          try simp only [Act.put, List.setIfInBounds_toArray, List.set_cons_zero, List.set_cons_succ]
          refine take_op 7 (some 34) (v := ?_) rfl rfl (by kernel_rfl) (by kernel_rfl) (by kernel_rfl) (fun _ _ _ h => h) (Or.inl ⟨by rfl, ?_⟩) (by assumption) ?_
          rotate_left
          · intro w_ hSw_; (try dsimp only at hSw_); go_simp; (try with_reducible rfl)
          try simp only [Act.put, List.setIfInBounds_toArray, List.set_cons_zero, List.set_cons_succ]
          refine take_op 8 (some 35) (v := ?_) rfl rfl (by kernel_rfl) (by kernel_rfl) (by kernel_rfl) (fun _ _ _ h => h) (Or.inl ⟨by rfl, ?_⟩) (by assumption) ?_
          rotate_left
          · intro w_ hSw_; (try dsimp only at hSw_); go_simp; (try with_reducible rfl)
          try simp only [Act.put, List.setIfInBounds_toArray, List.set_cons_zero, List.set_cons_succ]
          refine go_op 9 rfl (by kernel_rfl) (fun K_ hK_ => ?_)
          go_simp
          refine (HSUM.out _).mono ?_
          rintro e w5 ⟨rfl, hw5⟩
          have hw5 := hw5.symm
          subst hw5
          refine hK_.out _ _ ?_ (fun hHeld_ => ?_)
          · exact hHeld
          by_cases hin2 : in64 (m + d)
          · have hdec : decide (in64 (m + d)) = true := by simpa using hin2
            rw [hdec, wrap_in64 hin2]
            have HIN := Lib.hid hin2
            clear hin2 hdec
            refine take_op 10 (some 26) (v := ?_) rfl rfl (by kernel_rfl) (by kernel_rfl) (by kernel_rfl) (fun _ _ _ h => h) (Or.inl ⟨by rfl, ?_⟩) (by assumption) ?_
            rotate_left
            · intro w_ hSw_; (try dsimp only at hSw_); go_simp; (try with_reducible rfl)
            try simp only [Act.put, List.setIfInBounds_toArray, List.set_cons_zero, List.set_cons_succ]
            refine take_op 11 (some 37) (v := ?_) rfl rfl (by kernel_rfl) (by kernel_rfl) (by kernel_rfl) (fun _ _ _ h => h) (Or.inl ⟨by rfl, ?_⟩) (by assumption) ?_
            rotate_left
            · intro w_ hSw_; (try dsimp only at hSw_); go_simp; (try with_reducible rfl)
            try simp only [Act.put, List.setIfInBounds_toArray, List.set_cons_zero, List.set_cons_succ]
            refine take_op 12 (some 38) (v := ?_) rfl rfl (by kernel_rfl) (by kernel_rfl) (by kernel_rfl) (fun _ _ _ h => h) (Or.inl ⟨by rfl, ?_⟩) (by assumption) ?_
            rotate_left
            · intro w_ hSw_; (try dsimp only at hSw_); go_simp; (try with_reducible rfl)
            try simp only [Act.put, List.setIfInBounds_toArray, List.set_cons_zero, List.set_cons_succ]
            refine take_op 13 (some 11) (v := ?_) rfl rfl (by kernel_rfl) (by kernel_rfl) (by kernel_rfl) (fun _ _ _ h => h) (Or.inl ⟨by rfl, ?_⟩) (by assumption) ?_
            rotate_left
            · intro w_ hSw_; (try dsimp only at hSw_); go_simp; (try with_reducible rfl)
            try simp only [Act.put, List.setIfInBounds_toArray, List.set_cons_zero, List.set_cons_succ]
            refine take_op 14 (some 12) (v := ?_) rfl rfl (by kernel_rfl) (by kernel_rfl) (by kernel_rfl) (fun _ _ _ h => h) (Or.inl ⟨by rfl, ?_⟩) (by assumption) ?_
            rotate_left
            · intro w_ hSw_; (try dsimp only at hSw_); go_simp; (try with_reducible rfl)
            try simp only [Act.put, List.setIfInBounds_toArray, List.set_cons_zero, List.set_cons_succ]
            refine wpAnyH_done (by kernel_rfl) ?_ _
            clear hHeld hHeld_ hl4
            have c0 : w4.drew.cell? ⟨wr.heap.size, 0, none⟩ = some (.int .i64 k1) := HK4.out.cell 0
            have c1 : w4.drew.cell? ⟨wr.heap.size, 1, none⟩ = some (.int .i64 k2) := HK4.out.cell 1
            have HM5 := Lib.hid (HM4.out.of_block (w' := w4.drew) rfl)
            have HB5 := Lib.hid HB4.out.drew
            have HK5 : Hid (wr.heap.size < w4.drew.heap.size) := Lib.hid HK4.out.lt
            go_wp2_with (first | ((with_reducible refine at_mapPut KK mapkey_u HM5.out (k1, k2) (.int .i64 (m + d)) ?_ ?_ ?_ ?_); exact rfl; exact rfl; exact rfl; intro w6 hm6 ho6 hs6) | fail)
            go_roundw
            case rel =>
              refine ⟨i + 1, _, by omega, by go_num, ⟨by rw [HSN.out, if_pos HIN.out], ?_, ?_, HA.out.mb0, HB5.out.trans (ho6.below HB5.out.size (fun k hk e => by have := HA.out.mb0; omega))⟩⟩
              · rw [hst.out, List.map_append]
                exact HA.out.ok.upd _ _ HIN.out
              · rw [valK_upd] at hm6
                exact hm6
            case measure => simp [intOf]; omega
          · have hdec : decide (in64 (m + d)) = false := by simpa using hin2
            rw [hdec]
            have HIN := Lib.hid hin2
            clear hin2 hdec
            refine take_op 10 (some 26) (v := ?_) rfl rfl (by kernel_rfl) (by kernel_rfl) (by kernel_rfl) (fun _ _ _ h => h) (Or.inl ⟨by rfl, ?_⟩) (by assumption) ?_
            rotate_left
            · intro w_ hSw_; (try dsimp only at hSw_); go_simp; (try with_reducible rfl)
            try simp only [Act.put, List.setIfInBounds_toArray, List.set_cons_zero, List.set_cons_succ]
            refine take_op 11 (some 37) (v := ?_) rfl rfl (by kernel_rfl) (by kernel_rfl) (by kernel_rfl) (fun _ _ _ h => h) (Or.inl ⟨by rfl, ?_⟩) (by assumption) ?_
            rotate_left
            · intro w_ hSw_; (try dsimp only at hSw_); go_simp; (try with_reducible rfl)
            try simp only [Act.put, List.setIfInBounds_toArray, List.set_cons_zero, List.set_cons_succ]
            refine take_op 12 (some 38) (v := ?_) rfl rfl (by kernel_rfl) (by kernel_rfl) (by kernel_rfl) (fun _ _ _ h => h) (Or.inl ⟨by rfl, ?_⟩) (by assumption) ?_
            rotate_left
            · intro w_ hSw_; (try dsimp only at hSw_); go_simp; (try with_reducible rfl)
            try simp only [Act.put, List.setIfInBounds_toArray, List.set_cons_zero, List.set_cons_succ]
            refine take_op 13 (some 11) (v := ?_) rfl rfl (by kernel_rfl) (by kernel_rfl) (by kernel_rfl) (fun _ _ _ h => h) (Or.inl ⟨by rfl, ?_⟩) (by assumption) ?_
            rotate_left
            · intro w_ hSw_; (try dsimp only at hSw_); go_simp; (try with_reducible rfl)
            try simp only [Act.put, List.setIfInBounds_toArray, List.set_cons_zero, List.set_cons_succ]
            refine take_op 14 (some 12) (v := ?_) rfl rfl (by kernel_rfl) (by kernel_rfl) (by kernel_rfl) (fun _ _ _ h => h) (Or.inl ⟨by rfl, ?_⟩) (by assumption) ?_
            rotate_left
            · intro w_ hSw_; (try dsimp only at hSw_); go_simp; (try with_reducible rfl)
            try simp only [Act.put, List.setIfInBounds_toArray, List.set_cons_zero, List.set_cons_succ]
            refine wpAnyH_done (by kernel_rfl) ?_ _
            clear hHeld hHeld_ hl4
            go_wp2_with fail
            go_ret2
            have hno : addL (fun _ => none) (l ++ more) = none := by
              have h1 : addL (fun _ => none) (l ++ more.take (i + 1)) = none := by rw [HSN.out, if_neg HIN.out]
              have h2 : l ++ more = (l ++ more.take (i + 1)) ++ (more.drop (i + 1) ++ []) := by
                rw [List.append_nil, List.append_assoc, List.take_append_drop]
              rw [h2]; exact addL_none h1
            unfold AddPost
            rw [hno]
            exact ⟨rfl, HB4.out.drew⟩
        · have g1 : ¬ (i : Int) < (nm : Int) := by omega
          have hin : i = nm := by omega
          subst hin
          have hall : more.take i = more := by rw [HNM.out]; exact List.take_length
          rw [hall] at HA
          clear hall
          go_wp2_with fail
          rw [rounds_succ]
          go_wp2_with fail
          refine (told_any mb (l ++ more).length (by rw [List.length_append, ← HNL.out, ← HNM.out]; omega) M (fun ks h1 h2 => by have := HA.out.ok.count ks h1 h2; rwa [List.length_map] at this) wr HA.out.map).mono ?_
          rintro e w7 ⟨v, L, rfl, h1, h2, h3, h4⟩
          have hB9 := HA.out.bel.trans (h4.mono HA.out.bel.size)
          have hO9 := owns_rebase h3 HA.out.bel.size
          clear h3 h4
          go_wp2_with fail
          go_ret2
          unfold AddPost
          rw [HA.out.sum]
          exact ⟨v, L, rfl, h1, h2, hO9, hB9⟩
end Go.Proofs.Ytimiehnknehagaa
