import Derived.Test.YtimiehnknehagaaAddP
import Derived.Test.YtimiehnknehagaaStM
set_option linter.unusedSimpArgs false
set_option linter.unusedVariables false
namespace Go.Proofs.Ytimiehnknehagaa
open Go.RowKit
/-- What a state's loans have in their buckets: the first one of each Id. -/
def buckOf (l : List LoanM) (k : Int × Int) : Option Int :=
  match l.find? (fun x => x.id == k.1) with
  | none => none
  | some x => if k.2 = 1 then some x.principal else if k.2 = 2 then some x.interest else if k.2 = 3 then some x.fees else none
theorem buck_skip {l : List LoanM} {x : LoanM} (h : (buckOf l (x.id, 1)).isSome = true) : buckOf (l ++ [x]) = buckOf l := by
  funext k
  unfold buckOf at *
  rw [List.find?_append]
  cases hq : l.find? (fun y => y.id == k.1) with
  | some y => rfl
  | none =>
    by_cases hk : x.id = k.1
    · dsimp only at h
      rw [hk, hq] at h
      cases h
    · have : ([x].find? fun y => y.id == k.1) = none := by simp [hk]
      rw [this]; rfl
theorem buck_new {l : List LoanM} {x : LoanM} (h : (buckOf l (x.id, 1)).isSome = false) : buckOf (l ++ [x]) = updK (updK (updK (buckOf l) (x.id, 1) x.principal) (x.id, 2) x.interest) (x.id, 3) x.fees := by
  have hn : l.find? (fun y => y.id == x.id) = none := by
    unfold buckOf at h
    dsimp only at h
    cases hq : l.find? (fun y => y.id == x.id) with
    | none => rfl
    | some y => rw [hq] at h; simp at h
  funext k
  obtain ⟨k1, k2⟩ := k
  unfold updK buckOf
  dsimp only
  rw [List.find?_append]
  by_cases hk : x.id = k1
  · subst hk
    rw [hn]
    have : ([x].find? fun y => y.id == x.id) = some x := by simp
    rw [this]
    by_cases h3 : k2 = 3
    · subst h3; simp
    · by_cases h2 : k2 = 2
      · subst h2; simp
      · by_cases h1 : k2 = 1
        · subst h1; simp
        · simp [h1, h2, h3]
  · have : ([x].find? fun y => y.id == k1) = none := by simp [hk]
    rw [this, Option.or_none]
    have hk' : ¬ k1 = x.id := fun e => hk e.symm
    simp [hk']
/-- The keys of its buckets. -/
def buckKeys (l : List LoanM) : List (Int × Int) := l.flatMap fun x => [(x.id, 1), (x.id, 2), (x.id, 3)]
theorem buckKeys_len (l : List LoanM) : (buckKeys l).length = l.length * 3 := by
  unfold buckKeys
  induction l with
  | nil => rfl
  | cons x l ih => rw [List.flatMap_cons, List.length_append, ih]; simp; omega
theorem buck_keys {l : List LoanM} {k : Int × Int} (h : (buckOf l k).isSome = true) : k ∈ buckKeys l := by
  obtain ⟨k1, k2⟩ := k
  unfold buckOf at h
  dsimp only at h
  cases hq : l.find? (fun y => y.id == k1) with
  | none => rw [hq] at h; cases h
  | some x =>
    rw [hq] at h
    have hm := List.mem_of_find?_eq_some hq
    have hid : x.id = k1 := by simpa using List.find?_some hq
    refine List.mem_flatMap.2 ⟨x, hm, ?_⟩
    dsimp only at h
    subst hid
    by_cases h1 : k2 = 1
    · simp [h1]
    · by_cases h2 : k2 = 2
      · simp [h2]
      · by_cases h3 : k2 = 3
        · simp [h3]
        · rw [if_neg h1, if_neg h2, if_neg h3] at h; cases h
theorem buck_in {l : List LoanM} (hl : ∀ x ∈ l, in64 x.principal ∧ in64 x.interest ∧ in64 x.fees) : ∀ k d, buckOf l k = some d → in64 d := by
  intro k d h
  unfold buckOf at h
  cases hq : l.find? (fun y => y.id == k.1) with
  | none => rw [hq] at h; cases h
  | some x =>
    rw [hq] at h
    obtain ⟨h1, h2, h3⟩ := hl x (List.mem_of_find?_eq_some hq)
    dsimp only at h
    split at h
    · obtain rfl := Option.some.inj h; exact h1
    · split at h
      · obtain rfl := Option.some.inj h; exact h2
      · split at h
        · obtain rfl := Option.some.inj h; exact h3
        · cases h
section
variable {P : Program} {κ : Type} {enc : κ → Value} {kt et T : TypeId} {b : Nat} {f : κ → Option Value} {ops : Array Oper} {a : Act} {w : World} {Q : Exit → Act → World → Prop} {d : Option Tmp} {o : Oper} {m x y : Operand} {K' : Act → World → Prop} {E : Prop}
theorem step_mapPut [DecidableEq κ] (K : MKey P kt enc) (hT : P.underlying T = some (.map kt et)) (h : MapIs w enc b f) (k : κ) (v : Value) (hd : o.dst = d) (hg : Region.wanted o (yielded ops a.tmps) = true) (ho : o.op = .mapUpdate T m x y)
    (hm : a.eval m = .map (some b)) (hx : a.eval x = enc k) (hy : a.eval y = v)
    (hn : ∀ w', MapIs w' enc b (fun j => if j = k then some v else f j) → Only (· = b) w w' → w'.heap.size = w.heap.size → K' (a.put d undef) w') : if Region.wanted o (yielded ops a.tmps) = true then Oper.wp P o a w K' Q else E := by
  obtain ⟨w', hr, h1, h2, h3⟩ := h.put K hT k v
  subst hd
  rw [if_pos hg]
  unfold Oper.wp execOp
  simp only [ho, hm, hx, hy, Sem.run_bind, hr, Result.andThen_ok, Sem.run_pure]
  exact hn w' h1 h2 h3
end
def BuckPost (l : List LoanM) (w : World) (e : Ending) (w' : World) : Prop :=
  ∃ mb, e = .returned (.map (some mb)) ∧ MapIs w' encK mb (valK (buckOf l)) ∧ w.heap.size ≤ mb ∧ Below w.heap.size w w'
set_option maxRecDepth 100000 in
set_option maxHeartbeats 4000000 in
theorem buckets_any (v : Value) (s : StateM) (w : World) (h : StAt w v s) : Calls Try.prog 22 #[v] w (BuckPost s.loans w) := by
  obtain ⟨vl, vb, rfl, hl, hb⟩ := h.cells
  obtain ⟨adl, cl, rfl, hl1, hl2, hls⟩ := hl
  obtain ⟨vs, _, ⟨adb, cb, rfl, _, _, _⟩, _⟩ := hb
  obtain ⟨n, hn⟩ : ∃ n, n = s.loans.length := ⟨_, rfl⟩
  rw [← hn] at hl1 hl2 ⊢
  have HN := Lib.hid hn
  have HL := Lib.hid hls
  clear h hn hls
  have hmm := @run_makeMap Try.prog
  obtain ⟨mb, hmb⟩ : ∃ mb, mb = w.heap.size + 1 := ⟨_, rfl⟩
  obtain ⟨w0, hw0⟩ : ∃ w0, w0 = (w.alloc (.cells (stCells s (.slice adl n cl) (.slice adb vs.length cb)) 27)).alloc (.map #[] 0) := ⟨_, rfl⟩
  have HW0 : Hid (MapIs w0 encK mb (valK (buckOf [])) ∧ Below w.heap.size w w0) := Lib.hid (by
    rw [hw0]
    refine ⟨?_, ((Below.refl _ w).alloc (Nat.le_refl _) _).alloc (by simp) _⟩
    have := MapIs.new (w.alloc (.cells (stCells s (.slice adl n cl) (.slice adb vs.length cb)) 27)) encK
    rw [World.size_alloc, ← hmb] at this
    exact this)
  have HMB := Lib.hid hmb
  unfold stCells at hw0 ⊢
  have HW := Lib.hid hw0
  clear hmb hw0
  go_enter Try.func22, Try.ntmps22
  go_wp2_with fail
  try simp only [World.size_alloc]
  rw [← HMB.out, ← HW.out]
  clear HW
  go_loopw [12] (fun x wr => ∃ (i : Nat), i ≤ n ∧ x = .int .i64 i ∧ MapIs wr encK mb (valK (buckOf (s.loans.take i))) ∧ Below w.heap.size w wr) (fun x _ => n - (intOf x).toNat)
  case atStart => exact ⟨0, Nat.zero_le _, rfl, HW0.out.1, HW0.out.2⟩
  case round =>
    obtain ⟨i, hi, rfl, hM, hB⟩ := hrel
    have HM := Lib.hid hM
    have HB := Lib.hid hB
    clear hM hB
    by_cases hlt : i < n
    · have g1 : (i : Int) < (n : Int) := by omega
      obtain ⟨x, hx⟩ : ∃ x, s.loans[i]? = some x := ⟨s.loans[i]'(by have := HN.out; omega), List.getElem?_eq_getElem _⟩
      obtain ⟨be, oe, rfl, hbe, hc⟩ := loan_cell HL.out i x hx
      have hst : Hid (s.loans.take (i + 1) = s.loans.take i ++ [x]) := Lib.hid (by rw [List.take_add_one, hx]; rfl)
      have cc : ∀ (j : Nat) u, (encLoan x)[j]? = some u → wr.cell? ⟨be, oe + i * 13 + j, none⟩ = some u := fun j u hj => (HB.out.cell (p := ⟨be, oe + i * 13 + j, none⟩) hbe).trans (hc j u hj)
      have f0 : wr.cell? ⟨be, oe + i * 13, none⟩ = some (.int .i64 x.id) := cc 0 _ rfl
      have f1 : wr.cell? ⟨be, oe + i * 13 + 1, none⟩ = some (.int .i64 x.principal) := cc 1 _ rfl
      have f2 : wr.cell? ⟨be, oe + i * 13 + 2, none⟩ = some (.int .i64 x.interest) := cc 2 _ rfl
      have f3 : wr.cell? ⟨be, oe + i * 13 + 3, none⟩ = some (.int .i64 x.subsidy) := cc 3 _ rfl
      have f4 : wr.cell? ⟨be, oe + i * 13 + 4, none⟩ = some (.int .i64 x.fees) := cc 4 _ rfl
      have f5 : wr.cell? ⟨be, oe + i * 13 + 5, none⟩ = some (.int .i64 x.ppm) := cc 5 _ rfl
      have f6 : wr.cell? ⟨be, oe + i * 13 + 6, none⟩ = some (.bool x.subs) := cc 6 _ rfl
      have f7 : wr.cell? ⟨be, oe + i * 13 + 7, none⟩ = some (.int .i64 x.status) := cc 7 _ rfl
      have f8 : wr.cell? ⟨be, oe + i * 13 + 8, none⟩ = some (.int .i64 x.closed) := cc 8 _ rfl
      have f9 : wr.cell? ⟨be, oe + i * 13 + 9, none⟩ = some (.int .i64 x.entered) := cc 9 _ rfl
      have f10 : wr.cell? ⟨be, oe + i * 13 + 10, none⟩ = some (.int .i64 x.level) := cc 10 _ rfl
      have f11 : wr.cell? ⟨be, oe + i * 13 + 11, none⟩ = some (.int .i64 x.far) := cc 11 _ rfl
      have f12 : wr.cell? ⟨be, oe + i * 13 + 12, none⟩ = some (.int .i64 x.count) := cc 12 _ rfl
      obtain ⟨w4, hw4⟩ : ∃ w4, w4 = wr.alloc (.cells #[.int .i64 x.id, .int .i64 x.principal, .int .i64 x.interest, .int .i64 x.subsidy, .int .i64 x.fees, .int .i64 x.ppm, .bool x.subs, .int .i64 x.status, .int .i64 x.closed, .int .i64 x.entered, .int .i64 x.level, .int .i64 x.far, .int .i64 x.count] 58) := ⟨_, rfl⟩
      have hb4 : Below wr.heap.size wr w4 := by rw [hw4]; exact (Below.refl _ wr).alloc (Nat.le_refl _) _
      have HM4 := Lib.hid (HM.out.of_block (hb4.block mb HM.out.lt))
      have HB4 := Lib.hid (HB.out.trans (hb4.mono HB.out.size))
      have hlook := look_run_ok HM4.out x.id 1
      rw [hw4] at hlook
      have HW4 := Lib.hid hw4
      clear hc cc hx hb4 hw4
      cases hs : (buckOf (s.loans.take i) (x.id, 1)).isSome
      · rw [hs] at hlook
        have hnew : Hid (buckOf (s.loans.take (i + 1)) = updK (updK (updK (buckOf (s.loans.take i)) (x.id, 1) x.principal) (x.id, 2) x.interest) (x.id, 3) x.fees) := Lib.hid (by rw [hst.out]; exact buck_new hs)
        clear hs
        go_wp2_with fail
        rw [← HW4.out]
        have z0 : w4.cell? ⟨wr.heap.size, 0, none⟩ = some (.int .i64 x.id) := by rw [HW4.out]; exact (Blk.new wr _ _).cell 0
        have z1 : w4.cell? ⟨wr.heap.size, 1, none⟩ = some (.int .i64 x.principal) := by rw [HW4.out]; exact (Blk.new wr _ _).cell 1
        have z2 : w4.cell? ⟨wr.heap.size, 2, none⟩ = some (.int .i64 x.interest) := by rw [HW4.out]; exact (Blk.new wr _ _).cell 2
        have z4 : w4.cell? ⟨wr.heap.size, 4, none⟩ = some (.int .i64 x.fees) := by rw [HW4.out]; exact (Blk.new wr _ _).cell 4
        have hml := HM.out.lt
        have hzl : wr.heap.size < w4.heap.size := World.block_lt_of_cell? w4 _ z0
        have keep : ∀ w', Only (· = mb) w4 w' → (w'.cell? ⟨wr.heap.size, 0, none⟩ = some (.int .i64 x.id) ∧ w'.cell? ⟨wr.heap.size, 1, none⟩ = some (.int .i64 x.principal) ∧ w'.cell? ⟨wr.heap.size, 2, none⟩ = some (.int .i64 x.interest) ∧ w'.cell? ⟨wr.heap.size, 4, none⟩ = some (.int .i64 x.fees)) := fun w' ho => by
          have hb := ho.block wr.heap.size hzl (by omega)
          exact ⟨(World.cell?_of_block hb).trans z0, (World.cell?_of_block hb).trans z1, (World.cell?_of_block hb).trans z2, (World.cell?_of_block hb).trans z4⟩
        clear f0 f1 f2 f3 f4 f5 f6 f7 f8 f9 f10 f11 f12 hlook
        have KEEP := Lib.hid keep
        clear keep
        refine wp_region_held_drew (S := fun w' => w'.cell? ⟨wr.heap.size, 0, none⟩ = some (.int .i64 x.id) ∧ w'.cell? ⟨wr.heap.size, 1, none⟩ = some (.int .i64 x.principal) ∧ w'.cell? ⟨wr.heap.size, 2, none⟩ = some (.int .i64 x.interest) ∧ w'.cell? ⟨wr.heap.size, 4, none⟩ = some (.int .i64 x.fees)) (by kernel_rfl) ⟨z0, z1, z2, z4⟩ (fun hHeld => ?_)
        refine take_op 0 (some 26) (v := ?_) rfl rfl (by kernel_rfl) (by kernel_rfl) (by kernel_rfl) (fun _ _ _ h => h) (Or.inl ⟨by rfl, ?_⟩) (by assumption) ?_
        rotate_left
        · intro w_ hSw_; (try dsimp only at hSw_); go_simp; (try with_reducible rfl)
        try simp only [Act.put, List.setIfInBounds_toArray, List.set_cons_zero, List.set_cons_succ]
        refine take_op 1 (some 27) (v := ?_) rfl rfl (by kernel_rfl) (by kernel_rfl) (by kernel_rfl) (fun _ _ _ h => h) (Or.inl ⟨by rfl, ?_⟩) (by assumption) ?_
        rotate_left
        · intro w_ hSw_; (try dsimp only at hSw_); go_simp; (try with_reducible rfl)
        try simp only [Act.put, List.setIfInBounds_toArray, List.set_cons_zero, List.set_cons_succ]
        refine take_op 2 (some 28) (v := ?_) rfl rfl (by kernel_rfl) (by kernel_rfl) (by kernel_rfl) (fun _ _ _ h => h) (Or.inl ⟨by rfl, ?_⟩) (by assumption) ?_
        rotate_left
        · intro w_ hSw_; (try dsimp only at hSw_); go_simp; (try with_reducible rfl)
        try simp only [Act.put, List.setIfInBounds_toArray, List.set_cons_zero, List.set_cons_succ]
        refine take_op 3 (some 29) (v := ?_) rfl rfl (by kernel_rfl) (by kernel_rfl) (by kernel_rfl) (fun _ _ _ h => h) (Or.inl ⟨by rfl, ?_⟩) (by assumption) ?_
        rotate_left
        · intro w_ hSw_; (try dsimp only at hSw_); go_simp; (try with_reducible rfl)
        try simp only [Act.put, List.setIfInBounds_toArray, List.set_cons_zero, List.set_cons_succ]
        refine take_op 4 (some 30) (v := ?_) rfl rfl (by kernel_rfl) (by kernel_rfl) (by kernel_rfl) (fun _ _ _ h => h) (Or.inl ⟨by rfl, ?_⟩) (by assumption) ?_
        rotate_left
        · intro w_ hSw_; (try dsimp only at hSw_); go_simp; (try with_reducible rfl)
        try simp only [Act.put, List.setIfInBounds_toArray, List.set_cons_zero, List.set_cons_succ]
        refine take_op 5 (some 31) (v := ?_) rfl rfl (by kernel_rfl) (by kernel_rfl) (by kernel_rfl) (fun _ _ _ h => h) (Or.inl ⟨by rfl, ?_⟩) (by assumption) ?_
        rotate_left
        · intro w_ hSw_; (try dsimp only at hSw_); go_simp; (try with_reducible rfl)
        try simp only [Act.put, List.setIfInBounds_toArray, List.set_cons_zero, List.set_cons_succ]
        refine take_op 6 (some 32) (v := ?_) rfl rfl (by kernel_rfl) (by kernel_rfl) (by kernel_rfl) (fun _ _ _ h => h) (Or.inl ⟨by rfl, ?_⟩) (by assumption) ?_
        rotate_left
        · intro w_ hSw_; (try dsimp only at hSw_); go_simp; (try with_reducible rfl)
        try simp only [Act.put, List.setIfInBounds_toArray, List.set_cons_zero, List.set_cons_succ]
        refine take_op 7 (some 33) (v := ?_) rfl rfl (by kernel_rfl) (by kernel_rfl) (by kernel_rfl) (fun _ _ _ h => h) (Or.inl ⟨by rfl, ?_⟩) (by assumption) ?_
        rotate_left
        · intro w_ hSw_; (try dsimp only at hSw_); go_simp; (try with_reducible rfl)
        try simp only [Act.put, List.setIfInBounds_toArray, List.set_cons_zero, List.set_cons_succ]
        refine take_op 8 (some 34) (v := ?_) rfl rfl (by kernel_rfl) (by kernel_rfl) (by kernel_rfl) (fun _ _ _ h => h) (Or.inl ⟨by rfl, ?_⟩) (by assumption) ?_
        rotate_left
        · intro w_ hSw_; (try dsimp only at hSw_); go_simp; (try with_reducible rfl)
        try simp only [Act.put, List.setIfInBounds_toArray, List.set_cons_zero, List.set_cons_succ]
        refine take_op 9 (some 35) (v := ?_) rfl rfl (by kernel_rfl) (by kernel_rfl) (by kernel_rfl) (fun _ _ _ h => h) (Or.inl ⟨by rfl, ?_⟩) (by assumption) ?_
        rotate_left
        · intro w_ hSw_; (try dsimp only at hSw_); go_simp; (try with_reducible rfl)
        try simp only [Act.put, List.setIfInBounds_toArray, List.set_cons_zero, List.set_cons_succ]
        refine take_op 10 (some 36) (v := ?_) rfl rfl (by kernel_rfl) (by kernel_rfl) (by kernel_rfl) (fun _ _ _ h => h) (Or.inl ⟨by rfl, ?_⟩) (by assumption) ?_
        rotate_left
        · intro w_ hSw_; (try dsimp only at hSw_); go_simp; (try with_reducible rfl)
        try simp only [Act.put, List.setIfInBounds_toArray, List.set_cons_zero, List.set_cons_succ]
        refine take_op 11 (some 37) (v := ?_) rfl rfl (by kernel_rfl) (by kernel_rfl) (by kernel_rfl) (fun _ _ _ h => h) (Or.inl ⟨by rfl, ?_⟩) (by assumption) ?_
        rotate_left
        · intro w_ hSw_; (try dsimp only at hSw_); go_simp; (try with_reducible rfl)
        try simp only [Act.put, List.setIfInBounds_toArray, List.set_cons_zero, List.set_cons_succ]
        refine take_op 12 (some 38) (v := ?_) rfl rfl (by kernel_rfl) (by kernel_rfl) (by kernel_rfl) (fun _ _ _ h => h) (Or.inl ⟨by rfl, ?_⟩) (by assumption) ?_
        rotate_left
        · intro w_ hSw_; (try dsimp only at hSw_); go_simp; (try with_reducible rfl)
        try simp only [Act.put, List.setIfInBounds_toArray, List.set_cons_zero, List.set_cons_succ]
        refine take_op 13 (some 39) (v := ?_) rfl rfl (by kernel_rfl) (by kernel_rfl) (by kernel_rfl) (fun _ _ _ h => h) (Or.inl ⟨by rfl, ?_⟩) (by assumption) ?_
        rotate_left
        · intro w_ hSw_; (try dsimp only at hSw_); go_simp; (try with_reducible rfl)
        try simp only [Act.put, List.setIfInBounds_toArray, List.set_cons_zero, List.set_cons_succ]
        refine take_op 14 (some 40) (v := ?_) rfl rfl (by kernel_rfl) (by kernel_rfl) (by kernel_rfl) (fun _ _ _ h => h) (Or.inl ⟨by rfl, ?_⟩) (by assumption) ?_
        rotate_left
        · intro w_ hSw_; (try dsimp only at hSw_); go_simp; (try with_reducible rfl)
        try simp only [Act.put, List.setIfInBounds_toArray, List.set_cons_zero, List.set_cons_succ]
        refine take_op 15 (some 41) (v := ?_) rfl rfl (by kernel_rfl) (by kernel_rfl) (by kernel_rfl) (fun _ _ _ h => h) (Or.inl ⟨by rfl, ?_⟩) (by assumption) ?_
        rotate_left
        · intro w_ hSw_; (try dsimp only at hSw_); go_simp; (try with_reducible rfl)
        try simp only [Act.put, List.setIfInBounds_toArray, List.set_cons_zero, List.set_cons_succ]
        refine take_op 16 (some 42) (v := ?_) rfl rfl (by kernel_rfl) (by kernel_rfl) (by kernel_rfl) (fun _ _ _ h => h) (Or.inl ⟨by rfl, ?_⟩) (by assumption) ?_
        rotate_left
        · intro w_ hSw_; (try dsimp only at hSw_); go_simp; (try with_reducible rfl)
        try simp only [Act.put, List.setIfInBounds_toArray, List.set_cons_zero, List.set_cons_succ]
        refine take_op 17 (some 43) (v := ?_) rfl rfl (by kernel_rfl) (by kernel_rfl) (by kernel_rfl) (fun _ _ _ h => h) (Or.inl ⟨by rfl, ?_⟩) (by assumption) ?_
        rotate_left
        · intro w_ hSw_; (try dsimp only at hSw_); go_simp; (try with_reducible rfl)
        try simp only [Act.put, List.setIfInBounds_toArray, List.set_cons_zero, List.set_cons_succ]
        refine go_op 18 rfl (by kernel_rfl) (fun K_ hK_ => ?_)
        refine step_mapPut KK mapkey_u (HM4.out.of_block (w' := w4.drew) rfl) (x.id, 1) (.int .i64 x.principal) rfl rfl rfl rfl rfl rfl (fun w6 hm6 ho6 hs6 => ?_)
        have ho6 : Only (· = mb) w4 w6 := (Only.refl _ w4).drew.trans ho6
        refine hK_.out _ _ (KEEP.out w6 ho6) (fun hHeld_ => ?_)
        refine go_op 19 rfl (by kernel_rfl) (fun K_ hK_ => ?_)
        refine step_mapPut KK mapkey_u hm6 (x.id, 2) (.int .i64 x.interest) rfl rfl rfl rfl rfl rfl (fun w7 hm7 ho7 hs7 => ?_)
        have ho7 := ho6.trans ho7
        refine hK_.out _ _ (KEEP.out w7 ho7) (fun hHeld_ => ?_)
        refine go_op 20 rfl (by kernel_rfl) (fun K_ hK_ => ?_)
        refine step_mapPut KK mapkey_u hm7 (x.id, 3) (.int .i64 x.fees) rfl rfl rfl rfl rfl rfl (fun w8 hm8 ho8 hs8 => ?_)
        have ho8 := ho7.trans ho8
        refine hK_.out _ _ (KEEP.out w8 ho8) (fun hHeld_ => ?_)
        refine wpAnyH_done (by kernel_rfl) ?_ _
        simp only [Act.put]
        clear hHeld hHeld_ z0 z1 z2 z4
        have HO8 := Lib.hid ho8
        have HM8 := Lib.hid hm8
        clear ho6 ho7 ho8 hm6 hm7 hm8 hs6 hs7 hs8
        go_wp2_with fail
        go_roundw
        case rel =>
          have hmw : w.heap.size ≤ mb := by rw [HMB.out]; omega
          have ho := HO8.out
          refine ⟨i + 1, by omega, by go_num, ?_, HB4.out.trans (ho.below HB4.out.size (fun k hk e => by omega))⟩
          rw [hnew.out, ← valK_upd, ← valK_upd, ← valK_upd]
          exact HM8.out
        case measure => simp [intOf]; omega
      · rw [hs] at hlook
        have hskip : Hid (buckOf (s.loans.take (i + 1)) = buckOf (s.loans.take i)) := Lib.hid (by rw [hst.out]; exact buck_skip hs)
        clear hs
        go_wp2_with fail
        rw [← HW4.out]
        go_roundw
        case rel => exact ⟨i + 1, by omega, by go_num, by rw [hskip.out]; exact HM4.out, HB4.out⟩
        case measure => simp [intOf]; omega
    · have g1 : ¬ (i : Int) < (n : Int) := by omega
      have hin : i = n := by omega
      subst hin
      go_wp2_with fail
      go_ret
      have hall : s.loans.take i = s.loans := by rw [HN.out]; exact List.take_length
      rw [hall] at HM
      exact ⟨mb, rfl, HM.out, by rw [HMB.out]; omega, HB.out⟩
end Go.Proofs.Ytimiehnknehagaa
