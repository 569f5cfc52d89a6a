import Derived.Test.YtimiehnknehagaaEntP3
set_option linter.unusedSimpArgs false
set_option linter.unusedVariables false
namespace Go.Proofs.Ytimiehnknehagaa
open Go.RowKit
instance (x : Ent) : Decidable (in64E x) := by unfold in64E; infer_instance
def zeroS : StateM := ⟨0, [], 0, 0, 0, 0, [], 0, 0, 0, 0, 0, 0⟩
theorem zeroS_at (w : World) : StAt w (.agg (stCells zeroS (.slice none 0 0) (.slice none 0 0))) zeroS := ⟨_, _, rfl, RowsAt.nil w, [], rfl, RowsAt.nil w, fun _ h => by cases h⟩
def loansIn (l : List LoanM) : Prop := ∀ x ∈ l, in64 x.principal ∧ in64 x.interest ∧ in64 x.fees
def SamePost (l : List Ent) (ls : List LoanM) (w : World) (e : Ending) (w' : World) : Prop :=
  ∃ es, IsTold (diffOf (buckOf []) (buckOf ls)) es ∧ e = .returned (.bool (decide (l = es))) ∧ Below w.heap.size w w'
set_option maxHeartbeats 2000000 in
theorem same26_any (vl vs : Value) (l : List Ent) (s : StateM) (w : World) (hl : RowsAt encE 3 w vl l) (hs : StAt w vs s) (hn : s.loans.length ≤ 100000) (hi : loansIn s.loans) :
    Calls Try.prog 14 #[vl, vs] w (SamePost l s.loans w) := by
  obtain ⟨vla, vba, rfl, hla, hba⟩ := hs.cells
  obtain ⟨ada, ca, rfl, hla1, hla2, hlas⟩ := hla
  obtain ⟨vsa, hva, ⟨adba, cba, rfl, q1, q2, q3⟩, q4⟩ := hba
  obtain ⟨ma, hma⟩ : ∃ n, n = vsa.length := ⟨_, rfl⟩
  obtain ⟨na, hna⟩ : ∃ n, n = s.loans.length := ⟨_, rfl⟩
  obtain ⟨w0, hw0⟩ : ∃ w0, w0 = w.alloc (.cells (stCells s (.slice ada na ca) (.slice adba ma cba)) 27) := ⟨_, rfl⟩
  have hb0 : Below w.heap.size w w0 := by rw [hw0]; exact (Below.refl _ w).alloc (Nat.le_refl _) _
  rw [← hma, ← hna] at hs ⊢
  have HS := Lib.hid (hs.below hb0)
  have HL := Lib.hid (hl.below hb0)
  have HB := Lib.hid hb0
  have HI := Lib.hid hi
  unfold stCells at hw0
  have HW := Lib.hid hw0
  clear hs hl hb0 hw0 hla1 hla2 hlas hva q1 q2 q3 q4 hma hna hi
  unfold stCells
  go_enter Try.func14, Try.ntmps14
  go_wp2_with fail
  rw [← HW.out]
  refine (diff_any (.agg (stCells zeroS (.slice none 0 0) (.slice none 0 0))) (.agg (stCells s (.slice ada na ca) (.slice adba ma cba))) zeroS s (by decide) hn w0 (zeroS_at w0) HS.out (fun x hx => by cases hx) HI.out).mono ?_
  rintro e w1 ⟨v, es, rfl, ht, hel, ho, hb1⟩
  have HT := Lib.hid ht
  have HR := Lib.hid (RowsAt.own encE_len ho rfl (by have : es.length ≤ 0 * 3 + s.loans.length * 3 := hel; omega))
  have HL1 := Lib.hid (HL.out.below hb1)
  have HB1 := Lib.hid (HB.out.trans (hb1.mono HB.out.size))
  clear ht ho hb1 hel
  go_wp2_with fail
  refine (equal_any vl v l es w1 HL1.out HR.out).mono ?_
  rintro e w2 ⟨rfl, hb2⟩
  have HB2 := Lib.hid (HB1.out.trans (hb2.mono HB1.out.size))
  clear hb2
  go_wp2_with fail
  go_ret
  exact ⟨es, HT.out, rfl, HB2.out⟩
/-! The example of the law. -/
def wkLoan : LoanM := ⟨1, 100, 7, 0, 0, 0, false, 0, 0, 0, 0, 0, 0⟩
def wkS : StateM := ⟨0, [wkLoan], 0, 0, 0, 0, [], 0, 0, 0, 0, 0, 0⟩
theorem wk_buck (k : Int × Int) : buckOf [wkLoan] k = if k.1 = 1 then (if k.2 = 1 then some 100 else if k.2 = 2 then some 7 else if k.2 = 3 then some 0 else none) else none := by
  unfold buckOf
  by_cases h : k.1 = 1
  · have : ([wkLoan].find? fun x => x.id == k.1) = some wkLoan := by simp [wkLoan, h]
    rw [this, if_pos h]; rfl
  · have : ([wkLoan].find? fun x => x.id == k.1) = none := by simp [wkLoan]; exact fun e => h e.symm
    rw [this, if_neg h]
theorem wk_told : IsTold (diffOf (buckOf []) (buckOf [wkLoan])) [(1, 1, 100), (1, 2, 7)] := by
  have he : ∀ k, buckOf [] k = none := fun _ => rfl
  refine ⟨by simp [keyE, ltK], ?_⟩
  rintro ⟨a, b, d⟩
  unfold diffOf dOf keyE
  simp only [he, wk_buck]
  by_cases h1 : a = 1
  · by_cases h2 : b = 1
    · subst h1 h2; simp [in64]; omega
    · by_cases h3 : b = 2
      · subst h1 h3; simp [in64]; omega
      · by_cases h4 : b = 3
        · subst h1 h4; simp [in64]; omega
        · subst h1; simp [h2, h3, h4]
  · simp [h1]
def wkAll : List Ent := [(1, 1, 100), (1, 2, 7), (1, 2, -7)]
theorem wk_add : ∃ M, addL (fun _ => none) wkAll = some M ∧ IsTold M [(1, 1, 100)] := by
  refine ⟨_, rfl, by simp, ?_⟩
  rintro ⟨a, b, d⟩
  unfold updK keyE
  dsimp only
  by_cases h1 : a = 1
  · by_cases h2 : b = 1
    · subst h1 h2; simp; omega
    · by_cases h3 : b = 2
      · subst h1 h3; simp; omega
      · subst h1; simp [h2, h3]
  · simp [h1]
def wkA : List Ent := [(1, 1, 100), (1, 2, 7)]
def wkB : List Ent := [(1, 2, -7)]
theorem wkA_in : ∀ x ∈ wkA, in64E x := by
  intro x hx
  simp [wkA] at hx
  rcases hx with rfl | rfl <;> (unfold in64E in64; dsimp only; omega)
theorem wkB_in : ∀ x ∈ wkB, in64E x := by
  intro x hx
  simp [wkB] at hx
  subst hx; unfold in64E in64; dsimp only; omega
def WkPost (w : World) (e : Ending) (w' : World) : Prop := ∃ g cap, e = .returned (.tuple #[.slice (some ⟨g, 0, none⟩) 1 cap, .int .i64 0]) ∧ RowsAt encE 3 w' (.slice (some ⟨g, 0, none⟩) 1 cap) [(1, 1, 100)] ∧ Below w.heap.size w w'
theorem wk_step (v v2 : Value) (w : World) (h1 : RowsAt encE 3 w v wkA) (h2 : RowsAt encE 3 w v2 wkB) : Calls Try.prog 16 #[v, v2] w (WkPost w) := by
  obtain ⟨M, hM, hMT⟩ := wk_add
  have hadd := add_any v v2 wkA wkB (by decide) w h1 h2 wkA_in wkB_in
  refine hadd.mono ?_
  intro e w3 hp
  unfold AddPost at hp
  rw [show wkA ++ wkB = wkAll from rfl, hM] at hp
  obtain ⟨v3, L, rfl, h1, _, ho3, hb3⟩ := hp
  have hte : tellL M L = [(1, 1, 100)] := (isTold_tell h1).unique hMT
  rw [hte] at ho3
  obtain ⟨g3, cap3, hv⟩ : ∃ g cap, v3 = .slice (some ⟨g, 0, none⟩) 1 cap := own_slice (n := 0) ho3
  subst hv
  exact ⟨g3, cap3, rfl, RowsAt.own encE_len ho3 rfl (by decide), hb3⟩
set_option maxRecDepth 100000 in
set_option maxHeartbeats 4000000 in
theorem wakes26_any (w : World) : Calls Try.prog 8 #[] w fun e w' => e = .returned (.bool true) ∧ Below w.heap.size w w' := by
  obtain ⟨M, hM, hMT⟩ := wk_add
  have HM := Lib.hid hM
  have HMT := Lib.hid hMT
  clear hM hMT
  go_enter Try.func8, Try.ntmps8
  obtain ⟨w0, hw0⟩ : ∃ w0, w0 = ((w.alloc (.cells #[.int .i64 1, .int .i64 100, .int .i64 7, .int .i64 0, .int .i64 0, .int .i64 0, .bool false, .int .i64 0, .int .i64 0, .int .i64 0, .int .i64 0, .int .i64 0, .int .i64 0] 58)).alloc (.cells (stCells zeroS (.slice none 0 0) (.slice none 0 0)) 27)).alloc (.cells (stCells wkS (.slice (some ⟨w.heap.size, 0, none⟩) 1 1) (.slice none 0 0)) 27) := ⟨_, rfl⟩
  have hb0 : Below w.heap.size w w0 := by rw [hw0]; exact (((Below.refl _ w).alloc (Nat.le_refl _) _).alloc (by simp) _).alloc (by simp; omega) _
  have hk0 : Blk w0 w.heap.size #[.int .i64 1, .int .i64 100, .int .i64 7, .int .i64 0, .int .i64 0, .int .i64 0, .bool false, .int .i64 0, .int .i64 0, .int .i64 0, .int .i64 0, .int .i64 0, .int .i64 0] 58 := by rw [hw0]; exact ((Blk.new w _ _).alloc _).alloc _
  obtain ⟨bs, hbs⟩ : ∃ bs, bs = w.heap.size + 1 + 1 := ⟨_, rfl⟩
  have hks : Blk w0 bs (stCells wkS (.slice (some ⟨w.heap.size, 0, none⟩) 1 1) (.slice none 0 0)) 27 := by rw [hw0, hbs]; exact Blk.new' _ _ _ (by simp)
  have hst : StAt w0 (.agg (stCells wkS (.slice (some ⟨w.heap.size, 0, none⟩) 1 1) (.slice none 0 0))) wkS := ⟨_, _, rfl, ⟨_, _, rfl, Nat.le_refl _, (by decide), SrcAt.one hk0 rfl⟩, [], rfl, RowsAt.nil _, fun _ h => by cases h⟩
  have HB0 := Lib.hid hb0
  have HST := Lib.hid hst
  have HKS := Lib.hid hks
  have HBS := Lib.hid hbs
  unfold stCells zeroS wkS at hw0
  have HW := Lib.hid hw0
  clear hb0 hk0 hst hw0 hks hbs
  go_wp2_with fail
  try simp only [World.size_alloc]
  rw [← HBS.out, ← HW.out]
  refine (diff_any (.agg (stCells zeroS (.slice none 0 0) (.slice none 0 0))) (.agg (stCells wkS (.slice (some ⟨w.heap.size, 0, none⟩) 1 1) (.slice none 0 0))) zeroS wkS (by decide) (by decide) w0 (zeroS_at w0) HST.out (fun x hx => by cases hx) (fun x hx => by
    rw [List.mem_singleton.1 hx]; unfold wkLoan in64; dsimp only; omega)).mono ?_
  rintro e w1 ⟨v, es, rfl, ht, _, ho, hb1⟩
  obtain rfl := ht.unique wk_told
  obtain ⟨g, cap, hv⟩ : ∃ g cap, v = .slice (some ⟨g, 0, none⟩) 2 cap := own_slice (n := 1) ho
  subst hv
  have hr := RowsAt.own encE_len ho rfl (by decide)
  have HR1 := Lib.hid hr
  have HB1 := Lib.hid (HB0.out.trans (hb1.mono HB0.out.size))
  have HKS1 := Lib.hid (HKS.out.below hb1 HKS.out.lt)
  have HST1 := Lib.hid (HST.out.below hb1)
  obtain ⟨_, _, hv9, _, _, hsr⟩ := hr
  injection hv9 with hv9 hq1 hq2
  clear hq1 hq2
  obtain ⟨be, oe, hae, hbe, e0, e1, e2⟩ := encE_cell hsr 0 (1, 1, 100) rfl
  rw [← hv9] at hae
  injection hae with hae
  injection hae with h7 h8 _
  subst h7 h8
  have HE2 := Lib.hid e2
  have HBE := Lib.hid hbe
  clear ht ho hb1 e0 e1 e2 hsr hbe hv9
  go_wp2_with fail
  generalize hw2 : w1.alloc _ = w2
  have hb2 : Below w1.heap.size w1 w2 := by rw [← hw2]; exact (Below.refl _ _).alloc (Nat.le_refl _) _
  have hk2 : Blk w2 w1.heap.size #[.int .i64 1, .int .i64 2, .int .i64 (-7)] 52 := by rw [← hw2]; exact Blk.new _ _ _
  clear hw2
  have hw9 := wk_step (.slice (some ⟨g, 0, none⟩) 2 cap) (.slice (some ⟨w1.heap.size, 0, none⟩) 1 1) w2 (HR1.out.below hb2) ⟨_, _, rfl, Nat.le_refl _, (by decide), SrcAt.one hk2 rfl⟩
  have HW9 := Lib.hid hw9
  clear hw9
  refine HW9.out.mono ?_
  rintro e w3 ⟨g3, cap3, rfl, hr3, hb3⟩
  have HB3 := Lib.hid ((HB1.out.trans (hb2.mono HB1.out.size)).trans (hb3.mono (HB1.out.trans (hb2.mono HB1.out.size)).size))
  have hb23 := hb2.trans (hb3.mono hb2.size)
  have HR3 := Lib.hid hr3
  have HR1' := Lib.hid (HR1.out.below hb23)
  have HST3 := Lib.hid (HST1.out.below hb23)
  have HKS3 := Lib.hid (HKS1.out.below hb23 HKS1.out.lt)
  have c2 : w3.cell? ⟨g, 0 + 0 * 3 + 2, none⟩ = some (.int .i64 100) := (hb23.cell (p := ⟨g, 0 + 0 * 3 + 2, none⟩) HBE.out).trans HE2.out
  have hc := HKS3.out.cell
  have k1 : w3.cell? ⟨g, 2, none⟩ = some (.int .i64 100) := c2
  clear hr3 hb2 hk2 hb3 hb23 c2
  unfold stCells wkS at hc
  go_wp2_with fail
  refine (of_any (.slice (some ⟨g3, 0, none⟩) 1 cap3) [(1, 1, 100)] 1 1 w3 HR3.out).mono ?_
  rintro e w4 ⟨rfl, hb4⟩
  have h100 : ofL [(1, 1, 100)] 1 1 = 100 := rfl
  rw [h100]
  have HB4 := Lib.hid (HB3.out.trans (hb4.mono HB3.out.size))
  have HR14 := Lib.hid (HR1'.out.below hb4)
  have HR34 := Lib.hid (HR3.out.below hb4)
  have HST4 := Lib.hid (HST3.out.below hb4)
  have HKS4 := Lib.hid (HKS3.out.below hb4 HKS3.out.lt)
  have hc4 := HKS4.out.cell
  clear hb4 hc k1 h100
  unfold stCells wkS at hc4
  go_wp2_with fail
  have hin : loansIn wkS.loans := fun x hx => by
    rw [List.mem_singleton.1 hx]; unfold wkLoan in64; dsimp only; omega
  refine (same26_any (.slice (some ⟨g, 0, none⟩) 2 cap) (.agg (stCells wkS (.slice (some ⟨w.heap.size, 0, none⟩) 1 1) (.slice none 0 0))) [(1, 1, 100), (1, 2, 7)] wkS w4 HR14.out HST4.out (by decide) hin).mono ?_
  rintro e w5 ⟨es5, ht5, rfl, hb5⟩
  have he5 : decide ([(1, 1, 100), (1, 2, 7)] = es5) = true := by
    rw [ht5.unique wk_told]; exact decide_eq_true rfl
  rw [he5]
  have HB5 := Lib.hid (HB4.out.trans (hb5.mono HB4.out.size))
  have HR35 := Lib.hid (HR34.out.below hb5)
  have HST5 := Lib.hid (HST4.out.below hb5)
  have HKS5 := Lib.hid (HKS4.out.below hb5 HKS4.out.lt)
  have hc5 := HKS5.out.cell
  have HIN := Lib.hid hin
  clear hb5 hc4 ht5 he5 hin
  unfold stCells wkS at hc5
  go_wp2_with fail
  refine (same26_any (.slice (some ⟨g3, 0, none⟩) 1 cap3) (.agg (stCells wkS (.slice (some ⟨w.heap.size, 0, none⟩) 1 1) (.slice none 0 0))) [(1, 1, 100)] wkS w5 HR35.out HST5.out (by decide) HIN.out).mono ?_
  rintro e w6 ⟨es6, ht6, rfl, hb6⟩
  have he6 : decide ([(1, 1, 100)] = es6) = false := by
    rw [ht6.unique wk_told]; exact decide_eq_false (fun h => by cases h)
  rw [he6]
  have HB6 := Lib.hid (HB5.out.trans (hb6.mono HB5.out.size))
  clear hb6 hc5 ht6 he6
  go_wp2_with fail
  go_ret
  exact ⟨rfl, HB6.out⟩
end Go.Proofs.Ytimiehnknehagaa
