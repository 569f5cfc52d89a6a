import Derived.Test.YtimiehnknehagaaSortP
set_option linter.unusedSimpArgs false
set_option linter.unusedVariables false
namespace Go.Proofs.Ytimiehnknehagaa
open Go.RowKit
def encE (x : Int × Int × Int) : List Value := [.int .i64 x.1, .int .i64 x.2.1, .int .i64 x.2.2]
theorem encE_len (x : Int × Int × Int) : (encE x).length = 3 := rfl
theorem encE_one (x : Int × Int × Int) : ∀ v ∈ encE x, v.oneCell' = true := by
  intro v hv
  simp [encE] at hv
  rcases hv with rfl | rfl | rfl <;> rfl
/-- A map's integers, as values. -/
def valK (M : Int × Int → Option Int) (k : Int × Int) : Option Value := (M k).map (Value.int .i64)
/-- What told makes of a map's keys. -/
def tellK (M : Int × Int → Option Int) (k : Int × Int) : Option (Int × Int × Int) := if (M k).getD 0 ≠ 0 then some (k.1, k.2, (M k).getD 0) else none
def tellL (M : Int × Int → Option Int) (L : List (Int × Int)) : List (Int × Int × Int) := L.filterMap (tellK M)
theorem tellL_len (M : Int × Int → Option Int) (L : List (Int × Int)) : (tellL M L).length ≤ L.length := List.length_filterMap_le _ _
theorem zero_i64 (w : World) : (zeroValue 2).run Try.prog w = .ok (.int .i64 0) w := by
  have : Try.prog.underlying 2 = some (.int .i64) := by kernel_rfl
  obtain ⟨i, i1, i2, i3, i4⟩ := info_parts (show (Try.prog.info? 2).map (fun i => (i.zero, i.size, i.bytes)) = some (some (.int .i64 0), 1, 8) by kernel_rfl)
  simp [zeroValue, typeInfo, i1, i2]
theorem look_run {w : World} {b : Nat} {M : Int × Int → Option Int} (h : MapIs w encK b (valK M)) (k1 k2 : Int) :
    (Instr.lookup 60 (.map (some b)) (.agg #[.int .i64 k1, .int .i64 k2]) false).run Try.prog w = .ok (.int .i64 ((M (k1, k2)).getD 0)) w := by
  have := h.look KK mapkey_u zero_i64 (k1, k2) false
  unfold encK at this
  rw [this]
  unfold valK
  cases M (k1, k2) <;> rfl
theorem look_run_ok {w : World} {b : Nat} {M : Int × Int → Option Int} (h : MapIs w encK b (valK M)) (k1 k2 : Int) :
    (Instr.lookup 60 (.map (some b)) (.agg #[.int .i64 k1, .int .i64 k2]) true).run Try.prog w = .ok (.tuple #[.int .i64 ((M (k1, k2)).getD 0), .bool (M (k1, k2)).isSome]) w := by
  have := h.look KK mapkey_u zero_i64 (k1, k2) true
  unfold encK at this
  rw [this]
  unfold valK
  cases M (k1, k2) <;> rfl
theorem sl_ent : Try.prog.underlying 28 = some (.slice 52) := by kernel_rfl
theorem ent_info : (Try.prog.info? 52).map (fun i => (i.zero, i.size, i.bytes)) = some (some (.agg #[.int .i64 0, .int .i64 0, .int .i64 0]), 3, 24) := by kernel_rfl
def TellPost (N : Nat) (M : Int × Int → Option Int) (w : World) (e : Ending) (w' : World) : Prop :=
  ∃ v L, e = .returned v ∧ SortedKeys (valK M) L ∧ L.length ≤ N ∧ w'.ownsRow w.heap.size 52 3 v (tellL M L).length ((tellL M L).flatMap encE) ∧ Below w.heap.size w w'
set_option maxRecDepth 100000 in
set_option maxHeartbeats 2000000 in
theorem told_any (b N : Nat) (hNb : N ≤ 1000000) (M : Int × Int → Option Int) (hN : ∀ ks : List (Int × Int), ks.Nodup → (∀ k ∈ ks, (M k).isSome = true) → ks.length ≤ N) (w : World) (hM : MapIs w encK b (valK M)) :
    Calls Try.prog 24 #[.map (some b)] w (TellPost N M w) := by
  have hN' : ∀ ks : List (Int × Int), ks.Nodup → (∀ k ∈ ks, (valK M k).isSome = true) → ks.length ≤ N := fun ks h1 h2 => hN ks h1 (fun k hk => by have := h2 k hk; unfold valK at this; simpa using this)
  have HN := Lib.hid hN'
  have HM := Lib.hid hM
  clear hN hM hN'
  go_enter Try.func24, Try.ntmps24
  go_wp2_with fail
  refine (keys_any b w).mono ?_
  rintro e w1 ⟨rfl, hw1⟩
  have hb1 : Below w.heap.size w w1 := by rw [hw1]; exact (Below.refl _ _).alloc (Nat.le_refl _) _
  have hBm : w1.cell? ⟨w.heap.size, 0, none⟩ = some (.map (some b)) := by rw [hw1]; exact (Blk.new w #[.map (some b)] 60).cell 0
  have HB1 := Lib.hid hb1
  have HM1 := Lib.hid (HM.out.of_block (hb1.block b HM.out.lt))
  have HBM := Lib.hid hBm
  clear hw1 hb1 hBm
  go_wp2_with fail
  refine (sortedFunc_any w.heap.size b N hNb (valK M) HN.out w1 HBM.out HM1.out).mono ?_
  rintro e w2 ⟨v, L, rfl, hL, hLN, hR, hb2⟩
  obtain ⟨ad, cap, rfl, hc1, hc2, hsrc⟩ := hR
  have HL := Lib.hid hL
  have HSRC := Lib.hid hsrc
  have HM2 := Lib.hid (HM1.out.of_block (hb2.block b HM1.out.lt))
  have HB2 := Lib.hid (HB1.out.trans (hb2.mono HB1.out.size))
  obtain ⟨n, hn⟩ : ∃ n, n = L.length := ⟨_, rfl⟩
  rw [← hn] at hLN hc1 hc2 ⊢
  have HNL := Lib.hid hn
  clear hL hsrc hb2 hn
  go_wp2_with fail
  go_loopw [3, 10] (fun x i wr => ∃ (k : Nat) (v : Value), k ≤ n ∧ i = .int .i64 k ∧ x = v ∧ wr.ownsRow w2.heap.size 52 3 v (tellL M (L.take k)).length ((tellL M (L.take k)).flatMap encE) ∧ Below w2.heap.size w2 wr) (fun _ i _ => n - (intOf i).toNat)
  case atStart => exact ⟨0, _, Nat.zero_le _, rfl, rfl, ⟨rfl, .inl ⟨rfl, rfl⟩⟩, Below.refl _ _⟩
  case round =>
    obtain ⟨i, v, hi, rfl, rfl, hO, hB⟩ := hrel
    have HO := Lib.hid hO
    have HB := Lib.hid hB
    clear hO hB
    by_cases hlt : i < n
    · have g1 : (i : Int) < (n : Int) := by omega
      obtain ⟨k, hk⟩ : ∃ k, L[i]? = some k := ⟨L[i]'(by have := HNL.out; omega), List.getElem?_eq_getElem _⟩
      obtain ⟨bb, oo, rfl, hbb, hcc⟩ := HSRC.out (by have := HNL.out; omega)
      obtain ⟨k1, k2⟩ := k
      have e0 : wr.cell? ⟨bb, oo + i * 2, none⟩ = some (.int .i64 k1) := (HB.out.cell (p := ⟨bb, oo + i * 2, none⟩) hbb).trans (hcc i _ hk 0 _ rfl)
      have e1 : wr.cell? ⟨bb, oo + i * 2 + 1, none⟩ = some (.int .i64 k2) := (HB.out.cell (p := ⟨bb, oo + i * 2 + 1, none⟩) hbb).trans (hcc i _ hk 1 _ rfl)
      have hMr := HM2.out.of_block (HB.out.block b HM2.out.lt)
      have HMR := Lib.hid hMr
      have HK := Lib.hid hk
      obtain ⟨d, hd⟩ : ∃ d, d = (M (k1, k2)).getD 0 := ⟨_, rfl⟩
      have hlook := look_run (HMR.out.of_block (Below.heap_alloc wr (.cells #[.int .i64 k1, .int .i64 k2] 63) b HMR.out.lt)) k1 k2
      rw [← hd] at hlook
      have HD := Lib.hid hd
      clear hcc hMr hk hd
      have hst : Hid (tellL M (L.take (i + 1)) = tellL M (L.take i) ++ (tellL M [(k1, k2)])) := Lib.hid (by
        unfold tellL
        rw [List.take_add_one, HK.out, List.filterMap_append]; rfl)
      by_cases hd0 : d = 0
      · have hst2 : Hid (tellL M (L.take (i + 1)) = tellL M (L.take i)) := Lib.hid (by
          rw [hst.out]
          have : tellK M (k1, k2) = none := by unfold tellK; rw [← HD.out, hd0, if_neg (by simp)]
          unfold tellL
          rw [List.filterMap_cons_none this]; simp)
        subst hd0
        go_wp2_with fail
        go_roundw
        case rel => exact ⟨i + 1, _, by omega, by go_num, rfl, by rw [hst2.out]; exact owns_below HO.out ((Below.refl _ wr).alloc (Nat.le_refl _) _) (Nat.le_refl _), HB.out.trans (((Below.refl _ wr).alloc (Nat.le_refl _) _).mono HB.out.size)⟩
        case measure => simp [intOf]; omega
      · have hst2 : Hid (tellL M (L.take (i + 1)) = tellL M (L.take i) ++ [(k1, k2, d)]) := Lib.hid (by
          rw [hst.out]
          have : tellK M (k1, k2) = some (k1, k2, d) := by unfold tellK; rw [← HD.out, if_pos hd0]
          unfold tellL
          rw [List.filterMap_cons_some this]; rfl)
        go_wp2_with fail
        have hka := Blk.new wr #[.int .i64 k1, .int .i64 k2] 63
        have hb3 : Below wr.heap.size wr (wr.alloc (.cells #[.int .i64 k1, .int .i64 k2] 63)) := (Below.refl _ wr).alloc (Nat.le_refl _) _
        revert hlook hka hb3
        generalize wr.alloc (.cells #[.int .i64 k1, .int .i64 k2] 63) = w3
        intro hlook hka hb3
        have HO3 := Lib.hid (owns_below HO.out hb3 (Nat.le_refl _))
        have HB3 := Lib.hid (HB.out.trans (hb3.mono HB.out.size))
        have HM3 := Lib.hid (HMR.out.of_block (hb3.block b HMR.out.lt))
        have HKA := Lib.hid hka
        have hlookd := look_run (HM3.out.of_block (w' := w3.drew) rfl) k1 k2
        rw [← HD.out] at hlookd
        clear hlook hb3 hka e0 e1
        refine wp_region_held_drew (S := fun w' => w'.cell? ⟨wr.heap.size, 0, none⟩ = some (.int .i64 k1) ∧ w'.cell? ⟨wr.heap.size, 1, none⟩ = some (.int .i64 k2) ∧ (Instr.lookup 60 (.map (some b)) (.agg #[.int .i64 k1, .int .i64 k2]) false).run Try.prog w' = .ok (.int .i64 d) w') (by kernel_rfl) ⟨HKA.out.cell 0, HKA.out.cell 1, hlookd⟩ (fun hHeld => ?_)
        refine take_op 0 (some 18) (v := ?_) rfl rfl (by kernel_rfl) (by kernel_rfl) (by kernel_rfl) (fun _ _ _ h => h) (Or.inl ⟨by rfl, ?_⟩) (by assumption) ?_
        rotate_left
        · intro w_ hSw_; (try dsimp only at hSw_); go_simp; (try with_reducible rfl)
        try simp only [Act.put, List.setIfInBounds_toArray, List.set_cons_zero, List.set_cons_succ]
        refine take_op 1 (some 19) (v := ?_) rfl rfl (by kernel_rfl) (by kernel_rfl) (by kernel_rfl) (fun _ _ _ h => h) (Or.inl ⟨by rfl, ?_⟩) (by assumption) ?_
        rotate_left
        · intro w_ hSw_; (try dsimp only at hSw_); go_simp; (try with_reducible rfl)
        try simp only [Act.put, List.setIfInBounds_toArray, List.set_cons_zero, List.set_cons_succ]
        refine take_op 2 (some 20) (v := ?_) rfl rfl (by kernel_rfl) (by kernel_rfl) (by kernel_rfl) (fun _ _ _ h => h) (Or.inl ⟨by rfl, ?_⟩) (by assumption) ?_
        rotate_left
        · intro w_ hSw_; (try dsimp only at hSw_); go_simp; (try with_reducible rfl)
        try simp only [Act.put, List.setIfInBounds_toArray, List.set_cons_zero, List.set_cons_succ]
        refine take_op 3 (some 21) (v := ?_) rfl rfl (by kernel_rfl) (by kernel_rfl) (by kernel_rfl) (fun _ _ _ h => h) (Or.inl ⟨by rfl, ?_⟩) (by assumption) ?_
        rotate_left
        · intro w_ hSw_; (try dsimp only at hSw_); go_simp; (try with_reducible rfl)
        try simp only [Act.put, List.setIfInBounds_toArray, List.set_cons_zero, List.set_cons_succ]
        refine take_op 4 (some 22) (v := ?_) rfl rfl (by kernel_rfl) (by kernel_rfl) (by kernel_rfl) (fun _ _ _ h => h) (Or.inl ⟨by rfl, ?_⟩) (by assumption) ?_
        rotate_left
        · intro w_ hSw_; (try dsimp only at hSw_); go_simp; (try with_reducible rfl)
        try simp only [Act.put, List.setIfInBounds_toArray, List.set_cons_zero, List.set_cons_succ]
        refine take_op 5 (some 23) (v := ?_) rfl rfl (by kernel_rfl) (by kernel_rfl) (by kernel_rfl) (fun _ _ _ h => h) (Or.inl ⟨by rfl, ?_⟩) (by assumption) ?_
        rotate_left
        · intro w_ hSw_; (try dsimp only at hSw_); go_simp; (try with_reducible rfl)
        try simp only [Act.put, List.setIfInBounds_toArray, List.set_cons_zero, List.set_cons_succ]
        refine take_op 6 (some 24) (v := ?_) rfl rfl (by kernel_rfl) (by kernel_rfl) (by kernel_rfl) (fun _ _ _ h => h) (Or.inl ⟨by rfl, ?_⟩) (by assumption) ?_
        rotate_left
        · intro w_ hSw_; (try dsimp only at hSw_); go_simp; (try with_reducible rfl)
        try simp only [Act.put, List.setIfInBounds_toArray, List.set_cons_zero, List.set_cons_succ]
        refine take_op 7 (some 25) (v := ?_) rfl rfl (by kernel_rfl) (by kernel_rfl) (by kernel_rfl) (fun _ _ _ h => h) (Or.inl ⟨by rfl, ?_⟩) (by assumption) ?_
        rotate_left
        · intro w_ hSw_; (try dsimp only at hSw_); go_simp; (try with_reducible rfl)
        try simp only [Act.put, List.setIfInBounds_toArray, List.set_cons_zero, List.set_cons_succ]
        refine take_op 8 (some 26) (v := ?_) rfl rfl (by kernel_rfl) (by kernel_rfl) (by kernel_rfl) (fun _ _ _ h => h) (Or.inl ⟨by rfl, ?_⟩) (by assumption) ?_
        rotate_left
        · intro w_ hSw_; (try dsimp only at hSw_); go_simp; (try with_reducible rfl)
        try simp only [Act.put, List.setIfInBounds_toArray, List.set_cons_zero, List.set_cons_succ]
        refine go_op 9 rfl (by kernel_rfl) (fun K_ hK_ => ?_)
        go_simp
        have hb4 : Below w3.heap.size w3 (w3.alloc (.cells #[.int .i64 k1, .int .i64 k2, .int .i64 d] 52)).drew := ((Below.refl _ w3).alloc (Nat.le_refl _) _).drew
        have hk4 : Blk (w3.alloc (.cells #[.int .i64 k1, .int .i64 k2, .int .i64 d] 52)).drew w3.heap.size #[.int .i64 k1, .int .i64 k2, .int .i64 d] 52 := (Blk.new _ _ _).drew
        revert hb4 hk4
        generalize (w3.alloc (.cells #[.int .i64 k1, .int .i64 k2, .int .i64 d] 52)).drew = w4
        intro hb4 hk4
        have hM4 := HM3.out.of_block (hb4.block b HM3.out.lt)
        have hl4 := look_run hM4 k1 k2
        rw [← HD.out] at hl4
        have hH4 := And.intro ((hb4.cell (p := ⟨wr.heap.size, 0, none⟩) HKA.out.lt).trans (HKA.out.cell 0)) (And.intro ((hb4.cell (p := ⟨wr.heap.size, 1, none⟩) HKA.out.lt).trans (HKA.out.cell 1)) hl4)
        have HO4 := Lib.hid (owns_below HO3.out hb4 (Nat.le_refl _))
        have HB4 := Lib.hid (HB3.out.trans (hb4.mono HB3.out.size))
        refine hK_.out _ _ hH4 (fun hHeld_ => ?_)
        refine go_op 10 rfl (by kernel_rfl) (fun K_ hK_ => ?_)
        refine step_appRows sl_ent ent_info rfl (by decide) encE_len encE_one (by decide) rfl rfl rfl w2.heap.size u3 _ (tellL M (L.take i)) [(k1, k2, d)] (some ⟨w3.heap.size, 0, none⟩) 1 1 rfl HO4.out (SrcAt.one hk4 rfl) (by have := tellL_len M (L.take i); have h9 : (L.take i).length ≤ i := List.length_take_le _ _; omega) HB4.out.size rfl rfl ?_
        intro v5 w5 ho5 hg5 hv5
        have hbl := owns_block HO4.out
        have hM5 : MapIs w5 encK b (valK M) := hM4.of_block (hg5.block b hM4.lt (fun e => by have := hbl b e.symm; have := HM2.out.lt; omega))
        have hl5 := look_run hM5 k1 k2
        rw [← HD.out] at hl5
        have hB5 := HB4.out.trans (below_grown hg5 HB4.out.size (fun k hk => hbl k hk))
        have hq : ∀ q, w5.cell? ⟨wr.heap.size, q, none⟩ = w4.cell? ⟨wr.heap.size, q, none⟩ := fun q => World.cell?_of_block (hg5.block wr.heap.size (Nat.lt_of_lt_of_le HKA.out.lt hb4.size) (fun e => by
          have h1 := HO.out.lt wr.heap.size e.symm
          omega))
        have HO5 := Lib.hid ho5
        have HB5 := Lib.hid hB5
        try simp only [Act.put, List.setIfInBounds_toArray, List.set_cons_zero, List.set_cons_succ]
        refine hK_.out _ _ ⟨(hq 0).trans hH4.1, (hq 1).trans hH4.2.1, hl5⟩ (fun hHeld_ => ?_)
        refine take_op 11 (some 3) (v := ?_) rfl rfl (by kernel_rfl) (by kernel_rfl) (by kernel_rfl) (fun _ _ _ h => h) (Or.inl ⟨by rfl, ?_⟩) (by assumption) ?_
        rotate_left
        · intro w_ hSw_; (try dsimp only at hSw_); go_simp; (try with_reducible rfl)
        try simp only [Act.put, List.setIfInBounds_toArray, List.set_cons_zero, List.set_cons_succ]
        refine wpAnyH_done (by kernel_rfl) ?_ _
        clear hHeld hlookd hHeld_ hH4 hl4 hl5 hM4 hM5 hb4 hk4 ho5 hg5 hv5 hB5 hbl hq
        go_wp2_with fail
        go_roundw
        case rel => exact ⟨i + 1, _, by omega, by go_num, rfl, by rw [hst2.out, List.length_append]; exact HO5.out, HB5.out⟩
        case measure => simp [intOf]; omega
    · have g1 : ¬ (i : Int) < (n : Int) := by omega
      have hin : i = n := by omega
      subst hin
      go_wp2_with fail
      go_ret
      have hall : L.take i = L := by rw [HNL.out]; exact List.take_length
      have ho9 := HO.out
      rw [hall] at ho9
      exact ⟨_, L, rfl, HL.out, by rw [← HNL.out]; exact hLN, owns_rebase ho9 HB2.out.size, HB2.out.trans (HB.out.mono HB2.out.size)⟩
end Go.Proofs.Ytimiehnknehagaa
