/- Entries that are put together are those that the document puts together, or neither is any; a bucket's first entry is the document's; what was given stays as it was. No condition; more entries than the statement's own limit ask the example alone. -/
import Derived.Test.YtimiehnknehagaaRefAdd
import Derived.Test.YtimiehnknehagaaEntP3
import Derived.Test.YtimiehnknehagaaEntK
import Derived.Test.YtimiehnknehagaaChainCalls
import Derived.Test.YtimiehnknehagaaKeep
import Derived.Test.YtimiehnknehagaaRows
import Derived.ProofKit
import Derived.OpenShut
import Derived.Below
set_option linter.unusedSimpArgs false
set_option linter.unusedVariables false
namespace Go.Proofs.Ytimiehnknehagaa.entryAdds
open Go.ChangeShapes Go.WideShapes Go.ChangeAt Go.RowKit
/-- What entries come to together. -/
def ResIs (es r : List Ent) (err : Int) : Prop := match addL (fun _ => none) es with | none => r = [] ∧ err = 14 | some M => IsTold M r ∧ err = 0
theorem ResIs.unique {es r r' : List Ent} {x x' : Int} (h : ResIs es r x) (h' : ResIs es r' x') : r = r' ∧ x = x' := by
  unfold ResIs at h h'
  split at h
  · rename_i q
    rw [q] at h'
    obtain ⟨rfl, rfl⟩ := h
    obtain ⟨rfl, rfl⟩ := h'
    exact ⟨rfl, rfl⟩
  · rename_i M q
    rw [q] at h'
    exact ⟨h.1.unique h'.1, h.2.trans h'.2.symm⟩
def AdPost (es : List Ent) (w : World) (e : Ending) (w' : World) : Prop := ∃ v r x, e = .returned (.tuple #[v, .int .i64 x]) ∧ ResIs es r x ∧ r.length ≤ es.length ∧ RowsAt encE 3 w' v r ∧ Below w.heap.size w w'
theorem ad_any (vl vm : Value) (l more : List Ent) (hn : l.length + more.length ≤ 1000000) (w : World) (hl : RowsAt encE 3 w vl l) (hm : RowsAt encE 3 w vm more) (il : ∀ x ∈ l, in64E x) (im : ∀ x ∈ more, in64E x) :
    Calls Try.prog 16 #[vl, vm] w (AdPost (l ++ more) w) := by
  refine (add_any vl vm l more hn w hl hm il im).mono ?_
  intro e w1 hp
  unfold AddPost at hp
  split at hp
  · rename_i q
    obtain ⟨rfl, hb⟩ := hp
    exact ⟨_, [], 14, rfl, by unfold ResIs; rw [q]; exact ⟨rfl, rfl⟩, by simp, RowsAt.nil _, hb⟩
  · rename_i M q
    obtain ⟨v, L, rfl, h1, h2, ho, hb⟩ := hp
    have h3 := tell_len M L
    rw [List.length_append] at h2
    exact ⟨v, _, 0, rfl, by unfold ResIs; rw [q]; exact ⟨isTold_tell h1, rfl⟩, by rw [List.length_append]; omega, RowsAt.own encE_len ho rfl (by omega), hb⟩
theorem rd_any (vl vm : Value) (l more : List Ent) (hn : l.length + more.length ≤ 1000000) (w : World) (hl : RowsAt encE 3 w vl l) (hm : RowsAt encE 3 w vm more) (il : ∀ x ∈ l, in64E x) (im : ∀ x ∈ more, in64E x) :
    Calls Try.prog 17 #[vl, vm] w (AdPost (l ++ more) w) := by
  refine (refAdd_any vl vm l more hn w hl hm il im).mono ?_
  intro e w1 hp
  unfold RefAddPost at hp
  split at hp
  · rename_i q
    obtain ⟨rfl, hb⟩ := hp
    exact ⟨_, [], 14, rfl, by unfold ResIs; rw [q]; exact ⟨rfl, rfl⟩, by simp, RowsAt.nil _, hb⟩
  · rename_i M q
    obtain ⟨v, L, rfl, h1, h2, ho, hb⟩ := hp
    exact ⟨v, _, 0, rfl, by unfold ResIs; rw [q]; exact ⟨h1, rfl⟩, h2, ho, hb⟩
set_option maxRecDepth 100000 in
set_option maxHeartbeats 4000000 in
theorem walk0 (w : World) (vl : Value) (l : List Ent) (hl : RowsAt encE 3 w vl l) (il : ∀ x ∈ l, in64E x) (vm : Value) (more : List Ent) (hm : RowsAt encE 3 w vm more) (im : ∀ x ∈ more, in64E x) (a b : Int) :
    Calls Try.prog 4 #[vl, vm, .agg #[.int .i64 a, .int .i64 b]] w fun e w' => e = .returned (.bool true) ∧ Below w.heap.size w w' := by
  obtain ⟨adl, cl, rfl, hl1, hl2, hls⟩ := hl
  obtain ⟨adm, cm, rfl, hm1, hm2, hms⟩ := hm
  obtain ⟨nl, hnl⟩ : ∃ n, n = l.length := ⟨_, rfl⟩
  obtain ⟨nm, hnm⟩ : ∃ n, n = more.length := ⟨_, rfl⟩
  rw [← hnl] at hl1 hl2 ⊢
  rw [← hnm] at hm1 hm2 ⊢
  have HNL := Lib.hid hnl
  have HNM := Lib.hid hnm
  have HSL := Lib.hid hls
  have HSM := Lib.hid hms
  have HIL := Lib.hid il
  have HIM := Lib.hid im
  obtain ⟨w0, hw0⟩ : ∃ w0, w0 = w.alloc (.cells #[.int .i64 a, .int .i64 b] 40) := ⟨_, rfl⟩
  have HB0 : Hid (Below w.heap.size w w0) := Lib.hid (by rw [hw0]; exact (Below.refl _ w).alloc (Nat.le_refl _) _)
  obtain ⟨bs, hbs⟩ : ∃ bs, bs = w.heap.size := ⟨_, rfl⟩
  have HK0 : Hid (Blk w0 bs #[.int .i64 a, .int .i64 b] 40) := Lib.hid (by rw [hw0, hbs]; exact Blk.new _ _ _)
  have HW := Lib.hid hw0
  have HBS := Lib.hid hbs
  clear hnl hnm hls hms il im
  by_cases b1 : 200 < nl
  · have g1 : (200 : Int) < (nl : Int) := by omega
    rw [hw0] at HB0
    clear hw0 hbs
    go_enter Try.func4, Try.ntmps4
    go_wp2_with fail
    refine (wakes26_any _).mono ?_
    rintro e w2 ⟨rfl, hb2⟩
    go_wp2_with fail
    go_ret
    exact ⟨rfl, HB0.out.trans (hb2.mono HB0.out.size)⟩
  · by_cases b2 : 200 < nm
    · have g1 : ¬ (200 : Int) < (nl : Int) := by omega
      have g2 : (200 : Int) < (nm : Int) := by omega
      rw [hw0] at HB0
      clear hw0 hbs
      go_enter Try.func4, Try.ntmps4
      go_wp2_with fail
      refine (wakes26_any _).mono ?_
      rintro e w2 ⟨rfl, hb2⟩
      go_wp2_with fail
      go_ret
      exact ⟨rfl, HB0.out.trans (hb2.mono HB0.out.size)⟩
    · have g1 : ¬ (200 : Int) < (nl : Int) := by omega
      have g2 : ¬ (200 : Int) < (nm : Int) := by omega
      clear hw0 hbs
      have HO0 : Hid (((w.alloc (.cells #[.int .i64 a, .int .i64 b] 40)).alloc (.cells #[] 52)).ownsRow (w.heap.size + 1) 52 3 (.slice (some ⟨w.heap.size + 1, 0, none⟩) 0 0) 0 (([] : List Ent).flatMap encE)) := Lib.hid (by have := ent_empty (w.alloc (.cells #[.int .i64 a, .int .i64 b] 40)); rwa [World.size_alloc] at this)
      have HB1 : Hid (Below w.heap.size w ((w.alloc (.cells #[.int .i64 a, .int .i64 b] 40)).alloc (.cells #[] 52))) := Lib.hid (((Below.refl _ w).alloc (Nat.le_refl _) _).alloc (by simp) _)
      have HB1s : Hid (w.heap.size + 1 ≤ ((w.alloc (.cells #[.int .i64 a, .int .i64 b] 40)).alloc (.cells #[] 52)).heap.size) := Lib.hid (by simp)
      have HK1 : Hid (Blk ((w.alloc (.cells #[.int .i64 a, .int .i64 b] 40)).alloc (.cells #[] 52)) w.heap.size #[.int .i64 a, .int .i64 b] 40) := Lib.hid ((Blk.new _ _ _).alloc _)
      have HSL1 := Lib.hid (HSL.out.below HB1.out)
      go_enter Try.func4, Try.ntmps4
      go_wp2_with (first | ((with_reducible refine at_appRows sl_ent ent_info rfl (by decide) encE_len encE_one (by decide) (w.heap.size + 1) (.slice (some ⟨w.heap.size + 1, 0, none⟩) 0 0) 0 [] l adl nl cl ?_ ?_ ?_ ?_ ?_ ?_ ?_ ?_); exact HNL.out; exact HO0.out; exact HSL1.out; exact (by omega); exact HB1s.out; exact rfl; exact rfl; intro v5 w5 ho5 hg5 hv5; rw [Nat.zero_add, List.nil_append] at ho5; have hb5 := HB1.out.trans (below_grown hg5 HB1.out.size (fun k hk => by have := owns_block HO0.out k hk; omega)); have HO5 := Lib.hid ho5; have HB5 := Lib.hid hb5; have HR5 := Lib.hid (RowsAt.own encE_len ho5 HNL.out (by omega)); have HK5 : Hid (Blk w5 w.heap.size #[.int .i64 a, .int .i64 b] 40) := Lib.hid (HK1.out.below (below_grown (B := w.heap.size + 1) hg5 HB1s.out (fun k hk => owns_block HO0.out k hk)) (Nat.lt_succ_self _)); have HO6 := Lib.hid (ent_empty w5); have HB6 : Hid (Below w5.heap.size w5 (w5.alloc (.cells #[] 52))) := Lib.hid ((Below.refl _ w5).alloc (Nat.le_refl _) _); have HSM6 := Lib.hid ((HSM.out.below hb5).below HB6.out); clear ho5 hg5 hv5 hb5) | ((with_reducible refine at_appRows sl_ent ent_info rfl (by decide) encE_len encE_one (by decide) w5.heap.size (.slice (some ⟨w5.heap.size, 0, none⟩) 0 0) 0 [] more adm nm cm ?_ ?_ ?_ ?_ ?_ ?_ ?_ ?_); exact HNM.out; exact HO6.out; exact HSM6.out; exact (by omega); exact HB6.out.size; exact rfl; exact rfl; intro v6 w6 ho6 hg6 hv6) | fail)
      have hb6 := HB6.out.trans (below_grown hg6 HB6.out.size (fun k hk => owns_block HO6.out k hk))
      rw [Nat.zero_add, List.nil_append] at ho6
      have hr6 := RowsAt.own encE_len ho6 HNM.out (by omega)
      have HRL6 := Lib.hid (HR5.out.below hb6)
      have HK6 := Lib.hid (HK5.out.below hb6 HK5.out.lt)
      have HBX6 := Lib.hid (HB5.out.trans (hb6.mono HB5.out.size))
      have hlen : l.length + more.length ≤ 1000000 := by rw [← HNL.out, ← HNM.out]; omega
      refine (ad_any v5 v6 l more hlen w6 HRL6.out hr6 HIL.out HIM.out).mono ?_
      rintro e w7 ⟨v7, r, x, rfl, hres, hlr, hr7, hb7⟩
      clear ho6 hg6 hv6 hb6 hr6 HO0 HB1 HB1s HK1 HSL1 HO5 HR5 HK5 HO6 HB6 HSM6
      have HRES := Lib.hid hres
      have HLEN := Lib.hid hlen
      have HLR : Hid (r.length ≤ 1000000) := Lib.hid (by rw [List.length_append] at hlr; omega)
      have HRL7 := Lib.hid (HRL6.out.below hb7)
      have HK7 := Lib.hid (HK6.out.below hb7 HK6.out.lt)
      have HBX7 := Lib.hid (HBX6.out.trans (hb7.mono HBX6.out.size))
      have HR7 := Lib.hid hr7
      have HS7 : Hid (RowsAt encE 3 w7 (.slice adl nl cl) l) := Lib.hid ⟨_, _, by rw [← HNL.out], by rw [← HNL.out]; exact hl1, by rw [← HNL.out]; exact hl2, HSL.out.below HBX7.out⟩
      have HM7 : Hid (RowsAt encE 3 w7 (.slice adm nm cm) more) := Lib.hid ⟨_, _, by rw [← HNM.out], by rw [← HNM.out]; exact hm1, by rw [← HNM.out]; exact hm2, HSM.out.below HBX7.out⟩
      clear hres hlen hlr hb7 hr7 HRL6 HK6 HBX6
      go_wp2_with fail
      refine (os_any _ l (by rw [← HNL.out]; omega) w7 HS7.out).mono ?_
      rintro e w8 ⟨v8, rfl, hr8, hb8⟩
      have HRL8 := Lib.hid (HRL7.out.below hb8)
      have HK8 := Lib.hid (HK7.out.below hb8 HK7.out.lt)
      have HBX8 := Lib.hid (HBX7.out.trans (hb8.mono HBX7.out.size))
      have HR8 := Lib.hid (HR7.out.below hb8)
      have HS8 := Lib.hid (HS7.out.below hb8)
      have HM8 := Lib.hid (HM7.out.below hb8)
      have HA8 := Lib.hid hr8
      clear hb8 hr8
      go_wp2_with fail
      refine (os_any _ more (by rw [← HNM.out]; omega) w8 HM8.out).mono ?_
      rintro e w9 ⟨v9, rfl, hr9, hb9⟩
      have HRL9 := Lib.hid (HRL8.out.below hb9)
      have HK9 := Lib.hid (HK8.out.below hb9 HK8.out.lt)
      have HBX9 := Lib.hid (HBX8.out.trans (hb9.mono HBX8.out.size))
      have HR9 := Lib.hid (HR8.out.below hb9)
      have HS9 := Lib.hid (HS8.out.below hb9)
      have HA9 := Lib.hid (HA8.out.below hb9)
      have HB9 := Lib.hid hr9
      clear hb9 hr9 HM8
      go_wp2_with fail
      refine (rd_any v8 v9 l more HLEN.out w9 HA9.out HB9.out HIL.out HIM.out).mono ?_
      rintro e w10 ⟨v10, r', x', rfl, hres, hlr, hr10, hb10⟩
      obtain ⟨e1, e2⟩ := hres.unique HRES.out
      subst e1 e2
      have HRL10 := Lib.hid (HRL9.out.below hb10)
      have HK10 := Lib.hid (HK9.out.below hb10 HK9.out.lt)
      have HBX10 := Lib.hid (HBX9.out.trans (hb10.mono HBX9.out.size))
      have HR10 := Lib.hid (HR9.out.below hb10)
      have HS10 := Lib.hid (HS9.out.below hb10)
      have HQ10 := Lib.hid hr10
      clear hres hlr hr10 hb10 HA9 HB9
      go_wp2_with fail
      refine wp_region_held_drew (S := fun w' => w'.cell? ⟨w.heap.size, 0, none⟩ = some (.int .i64 a) ∧ w'.cell? ⟨w.heap.size, 1, none⟩ = some (.int .i64 b)) (by kernel_rfl) ⟨HK10.out.cell 0, HK10.out.cell 1⟩ (fun hHeld => ?_)
      refine take_op 0 (some 40) (v := ?_) rfl rfl (by kernel_rfl) (by kernel_rfl) (by kernel_rfl) (fun _ _ _ h => h) (Or.inl ⟨by rfl, ?_⟩) (by assumption) ?_
      rotate_left
      · intro w_ hSw_; (try dsimp only at hSw_); go_simp; (try with_reducible rfl)
      try simp only [Act.put, List.setIfInBounds_toArray, List.set_cons_zero, List.set_cons_succ]
      refine take_op 2 (some 42) (v := ?_) rfl rfl (by kernel_rfl) (by kernel_rfl) (by kernel_rfl) (fun _ _ _ h => h) (Or.inl ⟨by rfl, ?_⟩) (by assumption) ?_
      rotate_left
      · intro w_ hSw_; (try dsimp only at hSw_); go_simp; (try with_reducible rfl)
      try simp only [Act.put, List.setIfInBounds_toArray, List.set_cons_zero, List.set_cons_succ]
      refine go_op 1 rfl (by kernel_rfl) (fun K_ hK_ => ?_)
      go_simp
      refine (os_any v7 r' HLR.out w10.drew HR10.out).mono ?_
      rintro e w11 ⟨v11, rfl, hr11, hb11⟩
      have hb11 := (Below.refl w10.heap.size w10).drew.trans hb11
      have HRL11 := Lib.hid (HRL10.out.below hb11)
      have HK11 := Lib.hid (HK10.out.below hb11 HK10.out.lt)
      have HBX11 := Lib.hid (HBX10.out.trans (hb11.mono HBX10.out.size))
      have HS11 := Lib.hid (HS10.out.below hb11)
      have HQ11 := Lib.hid (HQ10.out.below hb11)
      have HC11 := Lib.hid hr11
      try simp only [Act.put, List.setIfInBounds_toArray, List.set_cons_zero, List.set_cons_succ]
      refine hK_.out _ _ ⟨HK11.out.cell 0, HK11.out.cell 1⟩ (fun hHeld_ => ?_)
      refine go_op 3 rfl (by kernel_rfl) (fun K_ hK_ => ?_)
      go_simp
      refine (alike_any v11 v10 r' r' w11 HC11.out HQ11.out).mono ?_
      rintro e w12 ⟨rfl, hb12⟩
      have hdec : decide (r' = r') = true := by simp
      rw [hdec]
      have HRL12 := Lib.hid (HRL11.out.below hb12)
      have HK12 := Lib.hid (HK11.out.below hb12 HK11.out.lt)
      have HBX12 := Lib.hid (HBX11.out.trans (hb12.mono HBX11.out.size))
      have HS12 := Lib.hid (HS11.out.below hb12)
      try simp only [Act.put, List.setIfInBounds_toArray, List.set_cons_zero, List.set_cons_succ]
      refine hK_.out _ _ ⟨HK12.out.cell 0, HK12.out.cell 1⟩ (fun hHeld_ => ?_)
      refine take_op 4 (some 44) (v := ?_) rfl rfl (by kernel_rfl) (by kernel_rfl) (by kernel_rfl) (fun _ _ _ h => h) (Or.inl ⟨by rfl, ?_⟩) (by assumption) ?_
      rotate_left
      · intro w_ hSw_; (try dsimp only at hSw_); go_simp; (try with_reducible rfl)
      try simp only [Act.put, List.setIfInBounds_toArray, List.set_cons_zero, List.set_cons_succ]
      refine take_op 5 (some 45) (v := ?_) rfl rfl (by kernel_rfl) (by kernel_rfl) (by kernel_rfl) (fun _ _ _ h => h) (Or.inl ⟨by rfl, ?_⟩) (by assumption) ?_
      rotate_left
      · intro w_ hSw_; (try dsimp only at hSw_); go_simp; (try with_reducible rfl)
      try simp only [Act.put, List.setIfInBounds_toArray, List.set_cons_zero, List.set_cons_succ]
      refine take_op 6 (some 46) (v := ?_) rfl rfl (by kernel_rfl) (by kernel_rfl) (by kernel_rfl) (fun _ _ _ h => h) (Or.inl ⟨by rfl, ?_⟩) (by assumption) ?_
      rotate_left
      · intro w_ hSw_; (try dsimp only at hSw_); go_simp; (try with_reducible rfl)
      try simp only [Act.put, List.setIfInBounds_toArray, List.set_cons_zero, List.set_cons_succ]
      refine take_op 7 (some 47) (v := ?_) rfl rfl (by kernel_rfl) (by kernel_rfl) (by kernel_rfl) (fun _ _ _ h => h) (Or.inl ⟨by rfl, ?_⟩) (by assumption) ?_
      rotate_left
      · intro w_ hSw_; (try dsimp only at hSw_); go_simp; (try with_reducible rfl)
      try simp only [Act.put, List.setIfInBounds_toArray, List.set_cons_zero, List.set_cons_succ]
      refine take_op 8 (some 48) (v := ?_) rfl rfl (by kernel_rfl) (by kernel_rfl) (by kernel_rfl) (fun _ _ _ h => h) (Or.inl ⟨by rfl, ?_⟩) (by assumption) ?_
      rotate_left
      · intro w_ hSw_; (try dsimp only at hSw_); go_simp; (try with_reducible rfl)
      try simp only [Act.put, List.setIfInBounds_toArray, List.set_cons_zero, List.set_cons_succ]
      refine take_op 9 (some 49) (v := ?_) rfl rfl (by kernel_rfl) (by kernel_rfl) (by kernel_rfl) (fun _ _ _ h => h) (Or.inl ⟨by rfl, ?_⟩) (by assumption) ?_
      rotate_left
      · intro w_ hSw_; (try dsimp only at hSw_); go_simp; (try with_reducible rfl)
      try simp only [Act.put, List.setIfInBounds_toArray, List.set_cons_zero, List.set_cons_succ]
      refine take_op 10 (some 50) (v := ?_) rfl rfl (by kernel_rfl) (by kernel_rfl) (by kernel_rfl) (fun _ _ _ h => h) (Or.inl ⟨by rfl, ?_⟩) (by assumption) ?_
      rotate_left
      · intro w_ hSw_; (try dsimp only at hSw_); go_simp; (try with_reducible rfl)
      try simp only [Act.put, List.setIfInBounds_toArray, List.set_cons_zero, List.set_cons_succ]
      refine take_op 11 (some 51) (v := ?_) rfl rfl (by kernel_rfl) (by kernel_rfl) (by kernel_rfl) (fun _ _ _ h => h) (Or.inl ⟨by rfl, ?_⟩) (by assumption) ?_
      rotate_left
      · intro w_ hSw_; (try dsimp only at hSw_); go_simp; (try with_reducible rfl)
      try simp only [Act.put, List.setIfInBounds_toArray, List.set_cons_zero, List.set_cons_succ]
      refine take_op 12 (some 52) (v := ?_) rfl rfl (by kernel_rfl) (by kernel_rfl) (by kernel_rfl) (fun _ _ _ h => h) (Or.inl ⟨by rfl, ?_⟩) (by assumption) ?_
      rotate_left
      · intro w_ hSw_; (try dsimp only at hSw_); go_simp; (try with_reducible rfl)
      try simp only [Act.put, List.setIfInBounds_toArray, List.set_cons_zero, List.set_cons_succ]
      refine take_op 13 (some 53) (v := ?_) rfl rfl (by kernel_rfl) (by kernel_rfl) (by kernel_rfl) (fun _ _ _ h => h) (Or.inl ⟨by rfl, ?_⟩) (by assumption) ?_
      rotate_left
      · intro w_ hSw_; (try dsimp only at hSw_); go_simp; (try with_reducible rfl)
      try simp only [Act.put, List.setIfInBounds_toArray, List.set_cons_zero, List.set_cons_succ]
      refine take_op 14 (some 54) (v := ?_) rfl rfl (by kernel_rfl) (by kernel_rfl) (by kernel_rfl) (fun _ _ _ h => h) (Or.inl ⟨by rfl, ?_⟩) (by assumption) ?_
      rotate_left
      · intro w_ hSw_; (try dsimp only at hSw_); go_simp; (try with_reducible rfl)
      try simp only [Act.put, List.setIfInBounds_toArray, List.set_cons_zero, List.set_cons_succ]
      refine take_op 16 (some 56) (v := ?_) rfl rfl (by kernel_rfl) (by kernel_rfl) (by kernel_rfl) (fun _ _ _ h => h) (Or.inl ⟨by rfl, ?_⟩) (by assumption) ?_
      rotate_left
      · intro w_ hSw_; (try dsimp only at hSw_); go_simp; (try with_reducible rfl)
      try simp only [Act.put, List.setIfInBounds_toArray, List.set_cons_zero, List.set_cons_succ]
      refine take_op 18 (some 58) (v := ?_) rfl rfl (by kernel_rfl) (by kernel_rfl) (by kernel_rfl) (fun _ _ _ h => h) (Or.inl ⟨by rfl, ?_⟩) (by assumption) ?_
      rotate_left
      · intro w_ hSw_; (try dsimp only at hSw_); go_simp; (try with_reducible rfl)
      try simp only [Act.put, List.setIfInBounds_toArray, List.set_cons_zero, List.set_cons_succ]
      refine take_op 19 (some 59) (v := ?_) rfl rfl (by kernel_rfl) (by kernel_rfl) (by kernel_rfl) (fun _ _ _ h => h) (Or.inl ⟨by rfl, ?_⟩) (by assumption) ?_
      rotate_left
      · intro w_ hSw_; (try dsimp only at hSw_); go_simp; (try with_reducible rfl)
      try simp only [Act.put, List.setIfInBounds_toArray, List.set_cons_zero, List.set_cons_succ]
      refine take_op 20 (some 60) (v := ?_) rfl rfl (by kernel_rfl) (by kernel_rfl) (by kernel_rfl) (fun _ _ _ h => h) (Or.inl ⟨by rfl, ?_⟩) (by assumption) ?_
      rotate_left
      · intro w_ hSw_; (try dsimp only at hSw_); go_simp; (try with_reducible rfl)
      try simp only [Act.put, List.setIfInBounds_toArray, List.set_cons_zero, List.set_cons_succ]
      refine take_op 21 (some 61) (v := ?_) rfl rfl (by kernel_rfl) (by kernel_rfl) (by kernel_rfl) (fun _ _ _ h => h) (Or.inl ⟨by rfl, ?_⟩) (by assumption) ?_
      rotate_left
      · intro w_ hSw_; (try dsimp only at hSw_); go_simp; (try with_reducible rfl)
      try simp only [Act.put, List.setIfInBounds_toArray, List.set_cons_zero, List.set_cons_succ]
      refine go_op 15 rfl (by kernel_rfl) (fun K_ hK_ => ?_)
      go_simp
      refine (of_any v5 l a b w12 HRL12.out).mono ?_
      rintro e w13 ⟨rfl, hb13⟩
      have HRL13 := Lib.hid (HRL12.out.below hb13)
      have HK13 := Lib.hid (HK12.out.below hb13 HK12.out.lt)
      have HBX13 := Lib.hid (HBX12.out.trans (hb13.mono HBX12.out.size))
      have HS13 := Lib.hid (HS12.out.below hb13)
      try simp only [Act.put, List.setIfInBounds_toArray, List.set_cons_zero, List.set_cons_succ]
      refine hK_.out _ _ ⟨HK13.out.cell 0, HK13.out.cell 1⟩ (fun hHeld_ => ?_)
      refine go_op 17 rfl (by kernel_rfl) (fun K_ hK_ => ?_)
      go_simp
      refine (os_any _ l (by rw [← HNL.out]; omega) w13 HS13.out).mono ?_
      rintro e w14 ⟨v14, rfl, hr14, hb14⟩
      have HRL14 := Lib.hid (HRL13.out.below hb14)
      have HK14 := Lib.hid (HK13.out.below hb14 HK13.out.lt)
      have HBX14 := Lib.hid (HBX13.out.trans (hb14.mono HBX13.out.size))
      have HS14 := Lib.hid (HS13.out.below hb14)
      have HA14 := Lib.hid hr14
      try simp only [Act.put, List.setIfInBounds_toArray, List.set_cons_zero, List.set_cons_succ]
      refine hK_.out _ _ ⟨HK14.out.cell 0, HK14.out.cell 1⟩ (fun hHeld_ => ?_)
      refine go_op 22 rfl (by kernel_rfl) (fun K_ hK_ => ?_)
      go_simp
      refine (reOf_any v14 l a b w14 HA14.out).mono ?_
      rintro e w15 ⟨rfl, hw15⟩
      have hw15 := hw15.symm
      subst hw15
      try simp only [Act.put, List.setIfInBounds_toArray, List.set_cons_zero, List.set_cons_succ]
      refine hK_.out _ _ ⟨HK14.out.cell 0, HK14.out.cell 1⟩ (fun hHeld_ => ?_)
      refine take_op 23 (some 63) (v := ?_) rfl rfl (by kernel_rfl) (by kernel_rfl) (by kernel_rfl) (fun _ _ _ h => h) (Or.inl ⟨by rfl, ?_⟩) (by assumption) ?_
      rotate_left
      · intro w_ hSw_; (try dsimp only at hSw_); go_simp; (try with_reducible rfl)
      try simp only [Act.put, List.setIfInBounds_toArray, List.set_cons_zero, List.set_cons_succ]
      refine take_op 24 (some 64) (v := ?_) rfl rfl (by kernel_rfl) (by kernel_rfl) (by kernel_rfl) (fun _ _ _ h => h) (Or.inl ⟨by rfl, ?_⟩) (by assumption) ?_
      rotate_left
      · intro w_ hSw_; (try dsimp only at hSw_); go_simp; (try with_reducible rfl)
      try simp only [Act.put, List.setIfInBounds_toArray, List.set_cons_zero, List.set_cons_succ]
      refine take_op 25 (some 65) (v := ?_) rfl rfl (by kernel_rfl) (by kernel_rfl) (by kernel_rfl) (fun _ _ _ h => h) (Or.inl ⟨by rfl, ?_⟩) (by assumption) ?_
      rotate_left
      · intro w_ hSw_; (try dsimp only at hSw_); go_simp; (try with_reducible rfl)
      try simp only [Act.put, List.setIfInBounds_toArray, List.set_cons_zero, List.set_cons_succ]
      refine take_op 26 (some 66) (v := ?_) rfl rfl (by kernel_rfl) (by kernel_rfl) (by kernel_rfl) (fun _ _ _ h => h) (Or.inl ⟨by rfl, ?_⟩) (by assumption) ?_
      rotate_left
      · intro w_ hSw_; (try dsimp only at hSw_); go_simp; (try with_reducible rfl)
      try simp only [Act.put, List.setIfInBounds_toArray, List.set_cons_zero, List.set_cons_succ]
      refine take_op 28 (some 68) (v := ?_) rfl rfl (by kernel_rfl) (by kernel_rfl) (by kernel_rfl) (fun _ _ _ h => h) (Or.inl ⟨by rfl, ?_⟩) (by assumption) ?_
      rotate_left
      · intro w_ hSw_; (try dsimp only at hSw_); go_simp; (try with_reducible rfl)
      try simp only [Act.put, List.setIfInBounds_toArray, List.set_cons_zero, List.set_cons_succ]
      refine go_op 27 rfl (by kernel_rfl) (fun K_ hK_ => ?_)
      go_simp
      refine (os_any v5 l (by rw [← HNL.out]; omega) w14 HRL14.out).mono ?_
      rintro e w16 ⟨v16, rfl, hr16, hb16⟩
      have HBX16 := Lib.hid (HBX14.out.trans (hb16.mono HBX14.out.size))
      have HS16 := Lib.hid (HS14.out.below hb16)
      have HK16 := Lib.hid (HK14.out.below hb16 HK14.out.lt)
      have HA16 := Lib.hid hr16
      try simp only [Act.put, List.setIfInBounds_toArray, List.set_cons_zero, List.set_cons_succ]
      refine hK_.out _ _ ⟨HK16.out.cell 0, HK16.out.cell 1⟩ (fun hHeld_ => ?_)
      refine go_op 29 rfl (by kernel_rfl) (fun K_ hK_ => ?_)
      go_simp
      refine (os_any _ l (by rw [← HNL.out]; omega) w16 HS16.out).mono ?_
      rintro e w17 ⟨v17, rfl, hr17, hb17⟩
      have HBX17 := Lib.hid (HBX16.out.trans (hb17.mono HBX16.out.size))
      have HA17 := Lib.hid (HA16.out.below hb17)
      have HK17 := Lib.hid (HK16.out.below hb17 HK16.out.lt)
      have HC17 := Lib.hid hr17
      try simp only [Act.put, List.setIfInBounds_toArray, List.set_cons_zero, List.set_cons_succ]
      refine hK_.out _ _ ⟨HK17.out.cell 0, HK17.out.cell 1⟩ (fun hHeld_ => ?_)
      refine go_op 30 rfl (by kernel_rfl) (fun K_ hK_ => ?_)
      go_simp
      refine (alike_any v16 v17 l l w17 HA17.out HC17.out).mono ?_
      rintro e w18 ⟨rfl, hb18⟩
      have hdec : decide (l = l) = true := by simp
      rw [hdec]
      have HBX18 := Lib.hid (HBX17.out.trans (hb18.mono HBX17.out.size))
      have HK18 := Lib.hid (HK17.out.below hb18 HK17.out.lt)
      try simp only [Act.put, List.setIfInBounds_toArray, List.set_cons_zero, List.set_cons_succ]
      refine hK_.out _ _ ⟨HK18.out.cell 0, HK18.out.cell 1⟩ (fun hHeld_ => ?_)
      refine take_op 31 (some 71) (v := ?_) rfl rfl (by kernel_rfl) (by kernel_rfl) (by kernel_rfl) (fun _ _ _ h => h) (Or.inl ⟨by rfl, ?_⟩) (by assumption) ?_
      rotate_left
      · intro w_ hSw_; (try dsimp only at hSw_); go_simp; (try with_reducible rfl)
      try simp only [Act.put, List.setIfInBounds_toArray, List.set_cons_zero, List.set_cons_succ]
      refine take_op 32 (some 72) (v := ?_) rfl rfl (by kernel_rfl) (by kernel_rfl) (by kernel_rfl) (fun _ _ _ h => h) (Or.inl ⟨by rfl, ?_⟩) (by assumption) ?_
      rotate_left
      · intro w_ hSw_; (try dsimp only at hSw_); go_simp; (try with_reducible rfl)
      try simp only [Act.put, List.setIfInBounds_toArray, List.set_cons_zero, List.set_cons_succ]
      refine go_op 33 rfl (by kernel_rfl) (fun K_ hK_ => ?_)
      go_simp
      refine (wakes26_any _).mono ?_
      rintro e w19 ⟨rfl, hb19⟩
      have HBX19 := Lib.hid (HBX18.out.trans (hb19.mono HBX18.out.size))
      have HK19 := Lib.hid (HK18.out.below hb19 HK18.out.lt)
      try simp only [Act.put, List.setIfInBounds_toArray, List.set_cons_zero, List.set_cons_succ]
      refine hK_.out _ _ ⟨HK19.out.cell 0, HK19.out.cell 1⟩ (fun hHeld_ => ?_)
      refine take_op 34 (some 74) (v := ?_) rfl rfl (by kernel_rfl) (by kernel_rfl) (by kernel_rfl) (fun _ _ _ h => h) (Or.inl ⟨by rfl, ?_⟩) (by assumption) ?_
      rotate_left
      · intro w_ hSw_; (try dsimp only at hSw_); go_simp; (try with_reducible rfl)
      try simp only [Act.put, List.setIfInBounds_toArray, List.set_cons_zero, List.set_cons_succ]
      refine take_op 35 (some 6) (v := ?_) rfl rfl (by kernel_rfl) (by kernel_rfl) (by kernel_rfl) (fun _ _ _ h => h) (Or.inl ⟨by rfl, ?_⟩) (by assumption) ?_
      rotate_left
      · intro w_ hSw_; (try dsimp only at hSw_); go_simp; (try with_reducible rfl)
      try simp only [Act.put, List.setIfInBounds_toArray, List.set_cons_zero, List.set_cons_succ]
      refine wpAnyH_done (by kernel_rfl) ?_ _
      clear hHeld hHeld_
      go_wp2_with fail
      go_ret
      exact ⟨rfl, HBX19.out⟩
def kA2 : Kd Try.prog 40 (List Int) := Kd.arr Try.underlying40 kIn 2 (by kernel_rfl)
theorem pair_in {w : World} {x : List Int} {cs : Array Value} (h : kA2.R w x cs.toList) : ∃ a b, cs = #[.int .i64 a, .int .i64 b] := by
  obtain ⟨hl, h3, h⟩ := h
  obtain ⟨cs⟩ := cs
  match x, h3 with
  | [a, b], _ =>
    match cs, hl with
    | [c0, c1], _ =>
      have h0 := h 0 a rfl
      have h1 := h 1 b rfl
      simp [kIn, Kd.int] at h0 h1
      exact ⟨a, b, by rw [h0.1, h1.1]⟩
theorem walk (w : World) (v0 : Value) (a0 : List EntD) (w0 : SlR kEnt w a0 v0) (v1 : Value) (a1 : List EntD) (w1 : SlR kEnt w a1 v1) (c2 : Array Value) (a2 : List Int) (w2 : kA2.R w a2 c2.toList) :
    Calls Try.prog 4 #[v0, v1, .agg c2] w fun e w' => e = .returned (.bool true) ∧ Below w.heap.size w w' := by
  obtain ⟨a, b, rfl⟩ := pair_in w2
  exact walk0 w v0 (a0.map entOf) (ents_in w0).1 (ents_in w0).2 v1 (a1.map entOf) (ents_in w1).1 (ents_in w1).2 a b
theorem own : ownKnob Try.prog.godebug = none := by kernel_rfl
theorem laidOut : laidOutB Try.prog = true := by kernel_rfl
set_option maxRecDepth 100000 in
theorem lifted (os : Os) (started : os.Started) (H : Type) (enc : TypeId × Value → H) :
    ReturnsInHanded {} Try.checked os 4 .any (Rows.entryAddsSpec.pre6 enc Try.prog Try.f4 Rows.entryAddsRow.domain false) (Rows.entryAddsSpec.post enc Try.prog Try.f4 false true false false) := by
  refine returnsInHanded_of_change (C := Try.checked) own started (by kernel_rfl) Try.func4
    (ChangeSpec.witness6 (enc := enc) (C := Try.checked) false ⟨#[], #[.slice none 0 0, .slice none 0 0, .agg #[.int .i64 0,.int .i64 0]], []⟩ 8 (by kernel_rfl) (by kernel_rfl) (by kernel_rfl) (by kernel_rfl)) ?_
  intro W base args ds gs before hval0 hW hcnd _
  have hval : ∀ (j : Nat) t v, Try.f4.params[j]? = some t → args[j]? = some v → Value.okWide Try.prog W .any base t v := hval0
  have hW' := hW
  obtain ⟨p, q, hA0, hV, rfl, hfz, hnd⟩ := hW
  have hA : DataW.TrodAll enc Try.prog W 0 (fun _ => true) true Try.f4.params.toList args.toList ds p := hA0
  rw [Try.params4] at hA hval
  obtain ⟨v0, vs0, d0, ds0, p0, q0, hargs, rfl, rfl, h0, r0⟩ := trodAll_cons hA
  obtain ⟨v1, vs1, d1, ds1, p1, q1, rfl, rfl, rfl, h1, r1⟩ := trodAll_cons r0
  obtain ⟨v2, vs2, d2, ds2, p2, q2, rfl, rfl, rfl, h2, r2⟩ := trodAll_cons r1
  obtain ⟨rfl, rfl, rfl⟩ := trodAll_nil r2
  obtain rfl : args = #[v0, v1, v2] := by cases args; simp_all
  obtain ⟨rfl, rfl⟩ := trodVars_none hV
  have k0 := h0
  have lt0 : ∀ x ∈ p0, x.block < W.heap.size := by obtain ⟨m, hm⟩ := k0; exact DataW.trod_lt m _ _ _ hm
  have k1 := h1
  have lt1 : ∀ x ∈ p1, x.block < W.heap.size := by obtain ⟨m, hm⟩ := k1; exact DataW.trod_lt m _ _ _ hm
  have k2 := h2
  have lt2 : ∀ x ∈ p2, x.block < W.heap.size := by obtain ⟨m, hm⟩ := k2; exact DataW.trod_lt m _ _ _ hm
  obtain ⟨ad0, ln0, cp0, e0⟩ := okWide_slice Try.underlying28 (hval 0 28 v0 rfl rfl)
  obtain ⟨a0, w0⟩ : ∃ a, SlR kEnt W a v0 := by
    obtain ⟨fuel, hf⟩ := h0
    obtain ⟨a, hx⟩ := kEnts.opn hf
    obtain ⟨v, hv, hs⟩ := hx
    rw [e0] at hv ⊢
    simp [Value.cells] at hv
    subst hv
    exact ⟨a, hs⟩
  obtain ⟨ad1, ln1, cp1, e1⟩ := okWide_slice Try.underlying28 (hval 1 28 v1 rfl rfl)
  obtain ⟨a1, w1⟩ : ∃ a, SlR kEnt W a v1 := by
    obtain ⟨fuel, hf⟩ := h1
    obtain ⟨a, hx⟩ := kEnts.opn hf
    obtain ⟨v, hv, hs⟩ := hx
    rw [e1] at hv ⊢
    simp [Value.cells] at hv
    subst hv
    exact ⟨a, hs⟩
  obtain ⟨cs2, e2, _⟩ := okWide_array Try.underlying40 (hval 2 40 v2 rfl rfl)
  obtain ⟨a2, w2⟩ : ∃ a, kA2.R W a cs2.toList := by
    obtain ⟨fuel, hf⟩ := h2
    rw [e2] at hf
    exact kA2.opn hf
  subst e2
  clear hA0 hval0
  refine (walk W v0 a0 w0 v1 a1 w1 cs2 a2 w2).mono fun e W' ⟨he, bel⟩ => ?_
  subst he
  exact ⟨_, rfl, _, _, _, [], _, [], hW', trodAll_mk1 (shut_bool Try.underlying4 _), (trodAll_cons_mk (Below.trod laidOut (by kernel_rfl) (of_decide_eq_true (by kernel_rfl)) k0 bel lt0) (trodAll_cons_mk (Below.trod laidOut (by kernel_rfl) (of_decide_eq_true (by kernel_rfl)) k1 bel lt1) (trodAll_cons_mk (Below.trod laidOut (by kernel_rfl) (of_decide_eq_true (by kernel_rfl)) k2 bel lt2) trodAll_mk0))), rfl, bel.frame _, fun h => by cases h⟩
theorem over : Rows.entryAddsRow.holds Try.pinned (OpenSpec.ofChange Rows.entryAddsSpec) :=
  OpenClaim.holds_of_wide 4 Try.f4 rfl rfl rfl rfl rfl rfl rfl ⟨rfl, rfl, rfl, rfl, rfl⟩ rfl rfl rfl rfl rfl (by kernel_rfl) Try.func4 (by kernel_rfl)
    (of_decide_eq_true (by kernel_rfl)) (by unfold Func.isWrapper; first | (rw [if_pos (by decide +kernel)]; kernel_rfl) | (rw [if_neg (by decide +kernel)]; exact ⟨rfl, rfl⟩))
    (fun os started H enc _ => lifted os started H enc)
theorem proved : Rows.EntryAddsSaid := over
#print axioms proved
end Go.Proofs.Ytimiehnknehagaa.entryAdds
