import Derived.Test.YtimiehnknehagaaInsSet
set_option linter.unusedSimpArgs false
set_option linter.unusedVariables false
namespace Go.Proofs.Ytimiehnknehagaa
open Go.RowKit
/-! The reference's Add. -/
def RefAddPost (es : List Ent) (w : World) (e : Ending) (w' : World) : Prop :=
  match addL (fun _ => none) es with
  | none => e = .returned (.tuple #[.slice none 0 0, .int .i64 14]) ∧ Below w.heap.size w w'
  | some M => ∃ v L, e = .returned (.tuple #[v, .int .i64 0]) ∧ IsTold M L ∧ L.length ≤ es.length ∧ RowsAt encE 3 w' v L ∧ Below w.heap.size w w'
/-- At the head of the outer loop. -/
structure RAdd (w6 wr : World) (all : List Ent) (i : Nat) (out : List Ent) (M : Int × Int → Option Int) (v : Value) : Prop where
  sum : addL (fun _ => none) (all.take i) = some M
  sorted : SortedM M out
  len : out.length ≤ i
  own : wr.ownsRow w6.heap.size 59 3 v out.length (out.flatMap encE)
  bel : Below w6.heap.size w6 wr
set_option maxRecDepth 100000 in
set_option maxHeartbeats 8000000 in
theorem refAdd_any (vl vm : Value) (l more : List Ent) (hn : l.length + more.length ≤ 1000000) (w : World) (hl : RowsAt encE 3 w vl l) (hm : RowsAt encE 3 w vm more) (il : ∀ x ∈ l, in64E x) (im : ∀ x ∈ more, in64E x) :
    Calls Try.prog 17 #[vl, vm] w (RefAddPost (l ++ more) w) := by
  obtain ⟨adl, cl, rfl, hl1, hl2, hls⟩ := hl
  obtain ⟨adm, cm, rfl, hm1, hm2, hms⟩ := hm
  obtain ⟨nl, hnl⟩ : ∃ n, n = l.length := ⟨_, rfl⟩
  obtain ⟨nm, hnm⟩ : ∃ n, n = more.length := ⟨_, rfl⟩
  rw [← hnl] at hn hl1 hl2 ⊢
  rw [← hnm] at hn hm1 hm2 ⊢
  have HNL := Lib.hid hnl
  have HNM := Lib.hid hnm
  have HSL := Lib.hid hls
  have HSM := Lib.hid hms
  have HIL := Lib.hid il
  have HIM := Lib.hid im
  clear hnl hnm hls hms il im
  have HO0 : Hid ((w.alloc (.cells #[] 59)).ownsRow w.heap.size 59 3 (.slice (some ⟨w.heap.size, 0, none⟩) 0 0) 0 (([] : List Ent).flatMap encE)) := Lib.hid (rown_empty w)
  have HB0 : Hid (Below w.heap.size w (w.alloc (.cells #[] 59))) := Lib.hid ((Below.refl _ w).alloc (Nat.le_refl _) _)
  have HSL1 := Lib.hid (HSL.out.below HB0.out)
  go_enter Try.func17, Try.ntmps17
  go_wp2_with (first | ((with_reducible refine at_appRows sl_rent rent_info rfl (by decide) encE_len encE_one (by decide) w.heap.size (.slice (some ⟨w.heap.size, 0, none⟩) 0 0) 0 [] l adl nl cl ?_ ?_ ?_ ?_ ?_ ?_ ?_ ?_); exact HNL.out; exact HO0.out; exact HSL1.out; exact (by omega); exact HB0.out.size; exact rfl; exact rfl; intro v5 w5 ho5 hg5 hv5; rw [Nat.zero_add, List.nil_append] at ho5; have hb5 := HB0.out.trans (below_grown hg5 HB0.out.size (fun k hk => owns_block HO0.out k hk)); have HO5 := Lib.hid ho5; have HB5 := Lib.hid hb5; have HSM5 := Lib.hid (HSM.out.below hb5); clear ho5 hg5 hv5 hb5) | ((with_reducible refine at_appRows sl_rent rent_info rfl (by decide) encE_len encE_one (by decide) w.heap.size v5 nl l more adm nm cm ?_ ?_ ?_ ?_ ?_ ?_ ?_ ?_); exact HNM.out; exact HO5.out; exact HSM5.out; exact (by omega); exact HB5.out.size; exact rfl; exact rfl; intro v6 w6 ho6 hg6 hv6) | fail)
  obtain ⟨all, hall⟩ : ∃ all, all = l ++ more := ⟨_, rfl⟩
  obtain ⟨n, hnn⟩ : ∃ n, n = nl + nm := ⟨_, rfl⟩
  have hb6 := HB5.out.trans (below_grown hg6 HB5.out.size (fun k hk => owns_block HO5.out k hk))
  have hna : n = all.length := by rw [hall, List.length_append, hnn, HNL.out, HNM.out]
  have hn6 : n ≤ 1000000 := by omega
  rw [← hall, ← hnn] at ho6
  obtain ⟨ada, ca, hva, ha1, ha2, has⟩ := RowsAt.own encE_len ho6 hna (by omega)
  rw [← hna] at hva ha1 ha2
  subst hva
  have HIA : Hid (∀ x ∈ all, in64E x) := Lib.hid (by
    rw [hall]; intro x hx
    rcases List.mem_append.1 hx with hx | hx
    · exact HIL.out x hx
    · exact HIM.out x hx)
  have HB6 := Lib.hid hb6
  have HSA := Lib.hid has
  have HNA := Lib.hid hna
  have HALL := Lib.hid hall
  try rw [← hall]
  clear ho6 hg6 hv6 hb6 has hna hall hnn HO0 HB0 HSL1 HO5 HB5 HSM5 HSL HSM HNL HNM HIL HIM hl1 hl2 hm1 hm2 hn
  go_wp2_with fail
  go_loopw [4, 5, 6, 8] (fun x4 x5 x6 x8 wr => ∃ (i : Nat) (out : List Ent) (M : Int × Int → Option Int) (v : Value), i ≤ n ∧ x8 = .int .i64 i ∧ x4 = .slice none 0 0 ∧ x5 = .int .i64 0 ∧ v = x6 ∧ RAdd w6 wr all i out M v) (fun _ _ _ y _ => n - (intOf y).toNat)
  case atStart => exact ⟨0, [], _, _, Nat.zero_le _, rfl, rfl, rfl, rfl, rfl, sortedM_nil, Nat.le_refl _, ⟨rfl, .inl ⟨rfl, rfl⟩⟩, Below.refl _ _⟩
  case round =>
    rename World => wo
    obtain ⟨i, out, M, v, hi, rfl, rfl, rfl, rfl, hR⟩ := hrel
    obtain ⟨hsum, hsort, hlen, hown, hbel⟩ := hR
    obtain ⟨m, hmo⟩ : ∃ m, m = out.length := ⟨_, rfl⟩
    rw [← hmo] at hown hlen
    have HMO := Lib.hid hmo
    have HSUM := Lib.hid hsum
    have HSORT := Lib.hid hsort
    have HBI0 := Lib.hid hbel
    have HLE : Hid (m ≤ 1000000) := Lib.hid (by omega)
    obtain ⟨ad, cap, hv, hc1, hc2, hso⟩ := RowsAt.own encE_len hown hmo (by omega)
    rw [← hmo] at hv hc1 hc2
    subst hv
    have HOWN := Lib.hid hown
    have HSO := Lib.hid hso
    have hada := own_ad hown
    have HADA := Lib.hid hada
    clear hmo hsum hsort hbel hown hso hada
    by_cases hlt : i < n
    · have g1 : (i : Int) < (n : Int) := by omega
      obtain ⟨x, hx⟩ : ∃ x, all[i]? = some x := ⟨all[i]'(by have := HNA.out; omega), List.getElem?_eq_getElem _⟩
      have hxin := HIA.out x (List.mem_of_getElem? hx)
      obtain ⟨be, oe, rfl, hbe, e0, e1, e2⟩ := encE_cell HSA.out i x hx
      have HST : Hid (all.take (i + 1) = all.take i ++ [x]) := Lib.hid (by rw [List.take_add_one, hx]; rfl)
      obtain ⟨x1, x2, x3⟩ := x
      dsimp only at e0 e1 e2
      have HX3 : Hid (in64 x3) := Lib.hid hxin.2.2
      have f0 := (HBI0.out.cell (p := ⟨be, oe + i * 3, none⟩) hbe).trans e0
      have f1 := (HBI0.out.cell (p := ⟨be, oe + i * 3 + 1, none⟩) hbe).trans e1
      have f2 := (HBI0.out.cell (p := ⟨be, oe + i * 3 + 2, none⟩) hbe).trans e2
      clear e0 e1 e2 hx hxin hbe
      obtain ⟨bx, hbx⟩ : ∃ bx, bx = wo.heap.size := ⟨_, rfl⟩
      obtain ⟨w7, hw7⟩ : ∃ w7, w7 = wo.alloc (.cells #[.int .i64 x1, .int .i64 x2, .int .i64 x3] 59) := ⟨_, rfl⟩
      have HW7 := Lib.hid hw7
      have HK7 : Hid (Blk w7 bx #[.int .i64 x1, .int .i64 x2, .int .i64 x3] 59) := Lib.hid (by rw [hw7, hbx]; exact Blk.new _ _ _)
      have HB7 : Hid (Below wo.heap.size wo w7) := Lib.hid (by rw [hw7]; exact (Below.refl _ wo).alloc (Nat.le_refl _) _)
      have HBXE := Lib.hid hbx
      clear hw7 hbx
      go_wp2_with fail
      rw [← HBXE.out, ← HW7.out]
      clear f0 f1 f2
      go_loopw [10] (fun x10 wi => ∃ (k : Nat), k ≤ m ∧ x10 = .int .i64 k ∧ (∀ j y, j < k → out[j]? = some y → ltK (keyE y) (x1, x2)) ∧ Below w7.heap.size w7 wi) (fun x _ => m - (intOf x).toNat)
      case atStart => exact ⟨0, Nat.zero_le _, rfl, fun j y hj => absurd hj (Nat.not_lt_zero _), Below.refl _ _⟩
      case round =>
        rename World => wi
        obtain ⟨k, hk, rfl, hltk, hbi⟩ := hrel
        have HLT := Lib.hid hltk
        have hb7i := HB7.out.trans (hbi.mono HB7.out.size)
        have HBI : Hid (Below w6.heap.size w6 wi) := Lib.hid (HBI0.out.trans (hb7i.mono HBI0.out.size))
        have hki := HK7.out.below hbi HK7.out.lt
        have X0 : Hid (wi.cell? ⟨bx, 0, none⟩ = some (.int .i64 x1)) := Lib.hid (hki.cell 0)
        have X1 : Hid (wi.cell? ⟨bx, 1, none⟩ = some (.int .i64 x2)) := Lib.hid (hki.cell 1)
        have X2 : Hid (wi.cell? ⟨bx, 2, none⟩ = some (.int .i64 x3)) := Lib.hid (hki.cell 2)
        have HBX : Hid (bx < wi.heap.size) := Lib.hid hki.lt
        have HSOI := Lib.hid (HSO.out.below hb7i)
        have HOWI := Lib.hid (owns_below HOWN.out hb7i (Nat.le_refl _))
        have SRC1 := Lib.hid (HSOI.out.take k)
        have HBW := Lib.hid hbi
        clear hltk hbi hki hb7i
        by_cases hkm : k < m
        · have g2 : (k : Int) < (m : Int) := by omega
          obtain ⟨y, hy⟩ : ∃ y, out[k]? = some y := ⟨out[k]'(by have := HMO.out; omega), List.getElem?_eq_getElem _⟩
          have hadg : ∃ g, ad = some ⟨g, 0, none⟩ := by
            rcases own_ad HOWI.out with ⟨h, _⟩ | ⟨g, h, _⟩
            · omega
            · exact ⟨g, h⟩
          obtain ⟨g, rfl⟩ := hadg
          obtain ⟨Y0, Y1, Y2⟩ := rown_cells HOWI.out HMO.out (by omega) k y hy
          have HY := Lib.hid hy
          have SRC2 : Hid (SrcAt encE 3 wi (some ⟨g, k * 3, none⟩) (out.drop k)) := Lib.hid (by have := HSOI.out.drop k; rwa [Nat.zero_add] at this)
          have hkc : k ≤ cap := by omega
          have hck : ¬ cap = k := by omega
          obtain ⟨y1, y2, y3⟩ := y
          dsimp only at Y0 Y1 Y2
          clear hy
          have ik : Hid (decide (k < m) = true) := Lib.hid (by simpa using hkm)
          have ik9 : Hid (decide ((k : Int) < (m : Int)) = true) := Lib.hid (decide_eq_true g2)
          have nk : Hid (@BEq.beq Int instBEqOfDecidableEq (k : Int) (m : Int) = false) := Lib.hid (by simp; omega)
          by_cases hc : y1 < x1
          · have hc1 : Hid (decide (y1 < x1) = true) := Lib.hid (decide_eq_true hc)
            clear hc
            go_wp2_with fail
            refine wp_region_held_drew (S := fun w' => w'.cell? ⟨g, k * 3, none⟩ = some (.int .i64 y1) ∧ w'.cell? ⟨g, k * 3 + 1, none⟩ = some (.int .i64 y2) ∧ w'.cell? ⟨bx, 0, none⟩ = some (.int .i64 x1) ∧ w'.cell? ⟨bx, 1, none⟩ = some (.int .i64 x2)) (by kernel_rfl) ⟨Y0, Y1, X0.out, X1.out⟩ (fun hHeld => ?_)
            refine take_op 0 (some 29) (v := ?_) rfl rfl (by kernel_rfl) (by kernel_rfl) (by kernel_rfl) (fun _ _ _ h => h) (Or.inl ⟨by rfl, ?_⟩) (by assumption) ?_
            rotate_left
            · intro w_ hSw_; (try dsimp only at hSw_); go_simp; (try with_reducible rfl)
            try simp only [Act.put, List.setIfInBounds_toArray, List.set_cons_zero, List.set_cons_succ]
            refine take_op 1 (some 30) (v := ?_) rfl rfl (by kernel_rfl) (by kernel_rfl) (by kernel_rfl) (fun _ _ _ h => h) (Or.inl ⟨by rfl, ?_⟩) (by assumption) ?_
            rotate_left
            · intro w_ hSw_; (try dsimp only at hSw_); go_simp; (try with_reducible rfl)
            try simp only [Act.put, List.setIfInBounds_toArray, List.set_cons_zero, List.set_cons_succ]
            refine take_op 2 (some 31) (v := ?_) rfl rfl (by kernel_rfl) (by kernel_rfl) (by kernel_rfl) (fun _ _ _ h => h) (Or.inl ⟨by rfl, ?_⟩) (by assumption) ?_
            rotate_left
            · intro w_ hSw_; (try dsimp only at hSw_); go_simp; (try with_reducible rfl)
            try simp only [Act.put, List.setIfInBounds_toArray, List.set_cons_zero, List.set_cons_succ]
            refine take_op 3 (some 32) (v := ?_) rfl rfl (by kernel_rfl) (by kernel_rfl) (by kernel_rfl) (fun _ _ _ h => h) (Or.inl ⟨by rfl, ?_⟩) (by assumption) ?_
            rotate_left
            · intro w_ hSw_; (try dsimp only at hSw_); go_simp; (try with_reducible rfl)
            try simp only [Act.put, List.setIfInBounds_toArray, List.set_cons_zero, List.set_cons_succ]
            first | rw [ik.out] | rw [ik9.out] | skip
            refine take_op 4 (some 33) (v := ?_) rfl rfl (by kernel_rfl) (by kernel_rfl) (by kernel_rfl) (fun _ _ _ h => h) (Or.inl ⟨by rfl, ?_⟩) (by assumption) ?_
            rotate_left
            · intro w_ hSw_; (try dsimp only at hSw_); go_simp; (try with_reducible rfl)
            try simp only [Act.put, List.setIfInBounds_toArray, List.set_cons_zero, List.set_cons_succ]
            refine take_op 5 (some 34) (v := ?_) rfl rfl (by kernel_rfl) (by kernel_rfl) (by kernel_rfl) (fun _ _ _ h => h) (Or.inl ⟨by rfl, ?_⟩) (by assumption) ?_
            rotate_left
            · intro w_ hSw_; (try dsimp only at hSw_); go_simp; (try with_reducible rfl)
            try simp only [Act.put, List.setIfInBounds_toArray, List.set_cons_zero, List.set_cons_succ]
            refine take_op 6 (some 35) (v := ?_) rfl rfl (by kernel_rfl) (by kernel_rfl) (by kernel_rfl) (fun _ _ _ h => h) (Or.inl ⟨by rfl, ?_⟩) (by assumption) ?_
            rotate_left
            · intro w_ hSw_; (try dsimp only at hSw_); go_simp; (try with_reducible rfl)
            try simp only [Act.put, List.setIfInBounds_toArray, List.set_cons_zero, List.set_cons_succ]
            refine take_op 7 (some 36) (v := ?_) rfl rfl (by kernel_rfl) (by kernel_rfl) (by kernel_rfl) (fun _ _ _ h => h) (Or.inl ⟨by rfl, ?_⟩) (by assumption) ?_
            rotate_left
            · intro w_ hSw_; (try dsimp only at hSw_); go_simp; (try with_reducible rfl)
            try simp only [Act.put, List.setIfInBounds_toArray, List.set_cons_zero, List.set_cons_succ]
            refine take_op 8 (some 37) (v := ?_) rfl rfl (by kernel_rfl) (by kernel_rfl) (by kernel_rfl) (fun _ _ _ h => h) (Or.inl ⟨by rfl, ?_⟩) (by assumption) ?_
            rotate_left
            · intro w_ hSw_; (try dsimp only at hSw_); go_simp; (try with_reducible rfl)
            try simp only [Act.put, List.setIfInBounds_toArray, List.set_cons_zero, List.set_cons_succ]
            refine take_op 9 (some 38) (v := ?_) rfl rfl (by kernel_rfl) (by kernel_rfl) (by kernel_rfl) (fun _ _ _ h => h) (Or.inl ⟨by rfl, ?_⟩) (by assumption) ?_
            rotate_left
            · intro w_ hSw_; (try dsimp only at hSw_); go_simp; (try with_reducible rfl)
            try simp only [Act.put, List.setIfInBounds_toArray, List.set_cons_zero, List.set_cons_succ]
            refine take_op 10 (some 39) (v := ?_) rfl rfl (by kernel_rfl) (by kernel_rfl) (by kernel_rfl) (fun _ _ _ h => h) (Or.inl ⟨by rfl, ?_⟩) (by assumption) ?_
            rotate_left
            · intro w_ hSw_; (try dsimp only at hSw_); go_simp; (try with_reducible rfl)
            try simp only [Act.put, List.setIfInBounds_toArray, List.set_cons_zero, List.set_cons_succ]
            refine take_op 11 (some 40) (v := ?_) rfl rfl (by kernel_rfl) (by kernel_rfl) (by kernel_rfl) (fun _ _ _ h => h) (Or.inl ⟨by rfl, ?_⟩) (by assumption) ?_
            rotate_left
            · intro w_ hSw_; (try dsimp only at hSw_); go_simp; (try with_reducible rfl)
            try simp only [Act.put, List.setIfInBounds_toArray, List.set_cons_zero, List.set_cons_succ]
            refine take_op 12 (some 41) (v := ?_) rfl rfl (by kernel_rfl) (by kernel_rfl) (by kernel_rfl) (fun _ _ _ h => h) (Or.inl ⟨by rfl, ?_⟩) (by assumption) ?_
            rotate_left
            · intro w_ hSw_; (try dsimp only at hSw_); go_simp; (try with_reducible rfl)
            try simp only [Act.put, List.setIfInBounds_toArray, List.set_cons_zero, List.set_cons_succ]
            first | rw [hc1.out] | skip
            refine take_op 13 (some 42) (v := ?_) rfl rfl (by kernel_rfl) (by kernel_rfl) (by kernel_rfl) (fun _ _ _ h => h) (Or.inl ⟨by rfl, ?_⟩) (by assumption) ?_
            rotate_left
            · intro w_ hSw_; (try dsimp only at hSw_); go_simp; (try with_reducible rfl)
            try simp only [Act.put, List.setIfInBounds_toArray, List.set_cons_zero, List.set_cons_succ]
            refine take_op 14 (some 43) rfl rfl (by kernel_rfl) (by kernel_rfl) (by kernel_rfl) (fun _ _ _ h => h) (Or.inr ⟨by rfl, rfl⟩) (by assumption) ?_
            try simp only [Act.put, List.setIfInBounds_toArray, List.set_cons_zero, List.set_cons_succ]
            refine take_op 15 (some 44) rfl rfl (by kernel_rfl) (by kernel_rfl) (by kernel_rfl) (fun _ _ _ h => h) (Or.inr ⟨by rfl, rfl⟩) (by assumption) ?_
            try simp only [Act.put, List.setIfInBounds_toArray, List.set_cons_zero, List.set_cons_succ]
            refine take_op 16 (some 45) rfl rfl (by kernel_rfl) (by kernel_rfl) (by kernel_rfl) (fun _ _ _ h => h) (Or.inr ⟨by rfl, rfl⟩) (by assumption) ?_
            try simp only [Act.put, List.setIfInBounds_toArray, List.set_cons_zero, List.set_cons_succ]
            refine take_op 17 (some 46) rfl rfl (by kernel_rfl) (by kernel_rfl) (by kernel_rfl) (fun _ _ _ h => h) (Or.inr ⟨by rfl, rfl⟩) (by assumption) ?_
            try simp only [Act.put, List.setIfInBounds_toArray, List.set_cons_zero, List.set_cons_succ]
            refine take_op 18 (some 47) rfl rfl (by kernel_rfl) (by kernel_rfl) (by kernel_rfl) (fun _ _ _ h => h) (Or.inr ⟨by rfl, rfl⟩) (by assumption) ?_
            try simp only [Act.put, List.setIfInBounds_toArray, List.set_cons_zero, List.set_cons_succ]
            refine take_op 19 (some 48) rfl rfl (by kernel_rfl) (by kernel_rfl) (by kernel_rfl) (fun _ _ _ h => h) (Or.inr ⟨by rfl, rfl⟩) (by assumption) ?_
            try simp only [Act.put, List.setIfInBounds_toArray, List.set_cons_zero, List.set_cons_succ]
            refine take_op 20 (some 49) rfl rfl (by kernel_rfl) (by kernel_rfl) (by kernel_rfl) (fun _ _ _ h => h) (Or.inr ⟨by rfl, rfl⟩) (by assumption) ?_
            try simp only [Act.put, List.setIfInBounds_toArray, List.set_cons_zero, List.set_cons_succ]
            refine take_op 21 (some 50) rfl rfl (by kernel_rfl) (by kernel_rfl) (by kernel_rfl) (fun _ _ _ h => h) (Or.inr ⟨by rfl, rfl⟩) (by assumption) ?_
            try simp only [Act.put, List.setIfInBounds_toArray, List.set_cons_zero, List.set_cons_succ]
            refine take_op 22 (some 51) rfl rfl (by kernel_rfl) (by kernel_rfl) (by kernel_rfl) (fun _ _ _ h => h) (Or.inr ⟨by rfl, rfl⟩) (by assumption) ?_
            try simp only [Act.put, List.setIfInBounds_toArray, List.set_cons_zero, List.set_cons_succ]
            refine take_op 23 (some 52) rfl rfl (by kernel_rfl) (by kernel_rfl) (by kernel_rfl) (fun _ _ _ h => h) (Or.inr ⟨by rfl, rfl⟩) (by assumption) ?_
            try simp only [Act.put, List.setIfInBounds_toArray, List.set_cons_zero, List.set_cons_succ]
            refine take_op 24 (some 53) rfl rfl (by kernel_rfl) (by kernel_rfl) (by kernel_rfl) (fun _ _ _ h => h) (Or.inr ⟨by rfl, rfl⟩) (by assumption) ?_
            try simp only [Act.put, List.setIfInBounds_toArray, List.set_cons_zero, List.set_cons_succ]
            refine take_op 25 (some 54) rfl rfl (by kernel_rfl) (by kernel_rfl) (by kernel_rfl) (fun _ _ _ h => h) (Or.inr ⟨by rfl, rfl⟩) (by assumption) ?_
            try simp only [Act.put, List.setIfInBounds_toArray, List.set_cons_zero, List.set_cons_succ]
            refine take_op 26 (some 55) rfl rfl (by kernel_rfl) (by kernel_rfl) (by kernel_rfl) (fun _ _ _ h => h) (Or.inr ⟨by rfl, rfl⟩) (by assumption) ?_
            try simp only [Act.put, List.setIfInBounds_toArray, List.set_cons_zero, List.set_cons_succ]
            refine take_op 27 (some 56) rfl rfl (by kernel_rfl) (by kernel_rfl) (by kernel_rfl) (fun _ _ _ h => h) (Or.inr ⟨by rfl, rfl⟩) (by assumption) ?_
            try simp only [Act.put, List.setIfInBounds_toArray, List.set_cons_zero, List.set_cons_succ]
            refine take_op 28 (some 57) rfl rfl (by kernel_rfl) (by kernel_rfl) (by kernel_rfl) (fun _ _ _ h => h) (Or.inr ⟨by rfl, rfl⟩) (by assumption) ?_
            try simp only [Act.put, List.setIfInBounds_toArray, List.set_cons_zero, List.set_cons_succ]
            refine take_op 29 (some 58) rfl rfl (by kernel_rfl) (by kernel_rfl) (by kernel_rfl) (fun _ _ _ h => h) (Or.inr ⟨by rfl, rfl⟩) (by assumption) ?_
            try simp only [Act.put, List.setIfInBounds_toArray, List.set_cons_zero, List.set_cons_succ]
            refine take_op 30 (some 59) rfl rfl (by kernel_rfl) (by kernel_rfl) (by kernel_rfl) (fun _ _ _ h => h) (Or.inr ⟨by rfl, rfl⟩) (by assumption) ?_
            try simp only [Act.put, List.setIfInBounds_toArray, List.set_cons_zero, List.set_cons_succ]
            refine take_op 31 (some 60) rfl rfl (by kernel_rfl) (by kernel_rfl) (by kernel_rfl) (fun _ _ _ h => h) (Or.inr ⟨by rfl, rfl⟩) (by assumption) ?_
            try simp only [Act.put, List.setIfInBounds_toArray, List.set_cons_zero, List.set_cons_succ]
            refine take_op 32 (some 61) (v := ?_) rfl rfl (by kernel_rfl) (by kernel_rfl) (by kernel_rfl) (fun _ _ _ h => h) (Or.inl ⟨by rfl, ?_⟩) (by assumption) ?_
            rotate_left
            · intro w_ hSw_; (try dsimp only at hSw_); go_simp; (try with_reducible rfl)
            try simp only [Act.put, List.setIfInBounds_toArray, List.set_cons_zero, List.set_cons_succ]
            refine take_op 33 (some 62) (v := ?_) rfl rfl (by kernel_rfl) (by kernel_rfl) (by kernel_rfl) (fun _ _ _ h => h) (Or.inl ⟨by rfl, ?_⟩) (by assumption) ?_
            rotate_left
            · intro w_ hSw_; (try dsimp only at hSw_); go_simp; (try with_reducible rfl)
            try simp only [Act.put, List.setIfInBounds_toArray, List.set_cons_zero, List.set_cons_succ]
            refine wpAnyH_done (by kernel_rfl) ?_ _
            clear hHeld
            go_wp2_with fail
            go_roundw
            case rel =>
              refine ⟨k + 1, by omega, by go_num, ?_, ?_⟩
              · intro j z hj hz
                rcases Nat.lt_or_ge j k with h9 | h9
                · exact HLT.out j z h9 hz
                · obtain rfl : k = j := by omega
                  rw [HY.out] at hz
                  obtain rfl := Option.some.inj hz
                  unfold ltK keyE
                  dsimp only
                  have := of_decide_eq_true hc1.out
                  omega
              · exact HBW.out.drew
            case measure => simp [intOf]; omega
          · have hc1 : Hid (decide (y1 < x1) = false) := Lib.hid (decide_eq_false hc)
            by_cases hd : y1 = x1
            · have hd := hd.symm
              subst hd
              have hd1 : Hid (@BEq.beq Int instBEqOfDecidableEq x1 x1 = true) := Lib.hid (by simp)
              have hd2 : Hid (@bne Int instBEqOfDecidableEq x1 x1 = false) := Lib.hid (by simp)
              by_cases he : y2 < x2
              · have he1 : Hid (decide (y2 < x2) = true) := Lib.hid (decide_eq_true he)
                clear hc he
                go_wp2_with fail
                refine wp_region_held_drew (S := fun w' => w'.cell? ⟨g, k * 3, none⟩ = some (.int .i64 x1) ∧ w'.cell? ⟨g, k * 3 + 1, none⟩ = some (.int .i64 y2) ∧ w'.cell? ⟨bx, 0, none⟩ = some (.int .i64 x1) ∧ w'.cell? ⟨bx, 1, none⟩ = some (.int .i64 x2)) (by kernel_rfl) ⟨Y0, Y1, X0.out, X1.out⟩ (fun hHeld => ?_)
                refine take_op 0 (some 29) (v := ?_) rfl rfl (by kernel_rfl) (by kernel_rfl) (by kernel_rfl) (fun _ _ _ h => h) (Or.inl ⟨by rfl, ?_⟩) (by assumption) ?_
                rotate_left
                · intro w_ hSw_; (try dsimp only at hSw_); go_simp; (try with_reducible rfl)
                try simp only [Act.put, List.setIfInBounds_toArray, List.set_cons_zero, List.set_cons_succ]
                refine take_op 1 (some 30) (v := ?_) rfl rfl (by kernel_rfl) (by kernel_rfl) (by kernel_rfl) (fun _ _ _ h => h) (Or.inl ⟨by rfl, ?_⟩) (by assumption) ?_
                rotate_left
                · intro w_ hSw_; (try dsimp only at hSw_); go_simp; (try with_reducible rfl)
                try simp only [Act.put, List.setIfInBounds_toArray, List.set_cons_zero, List.set_cons_succ]
                refine take_op 2 (some 31) (v := ?_) rfl rfl (by kernel_rfl) (by kernel_rfl) (by kernel_rfl) (fun _ _ _ h => h) (Or.inl ⟨by rfl, ?_⟩) (by assumption) ?_
                rotate_left
                · intro w_ hSw_; (try dsimp only at hSw_); go_simp; (try with_reducible rfl)
                try simp only [Act.put, List.setIfInBounds_toArray, List.set_cons_zero, List.set_cons_succ]
                refine take_op 3 (some 32) (v := ?_) rfl rfl (by kernel_rfl) (by kernel_rfl) (by kernel_rfl) (fun _ _ _ h => h) (Or.inl ⟨by rfl, ?_⟩) (by assumption) ?_
                rotate_left
                · intro w_ hSw_; (try dsimp only at hSw_); go_simp; (try with_reducible rfl)
                try simp only [Act.put, List.setIfInBounds_toArray, List.set_cons_zero, List.set_cons_succ]
                first | rw [ik.out] | rw [ik9.out] | skip
                refine take_op 4 (some 33) (v := ?_) rfl rfl (by kernel_rfl) (by kernel_rfl) (by kernel_rfl) (fun _ _ _ h => h) (Or.inl ⟨by rfl, ?_⟩) (by assumption) ?_
                rotate_left
                · intro w_ hSw_; (try dsimp only at hSw_); go_simp; (try with_reducible rfl)
                try simp only [Act.put, List.setIfInBounds_toArray, List.set_cons_zero, List.set_cons_succ]
                refine take_op 5 (some 34) (v := ?_) rfl rfl (by kernel_rfl) (by kernel_rfl) (by kernel_rfl) (fun _ _ _ h => h) (Or.inl ⟨by rfl, ?_⟩) (by assumption) ?_
                rotate_left
                · intro w_ hSw_; (try dsimp only at hSw_); go_simp; (try with_reducible rfl)
                try simp only [Act.put, List.setIfInBounds_toArray, List.set_cons_zero, List.set_cons_succ]
                refine take_op 6 (some 35) (v := ?_) rfl rfl (by kernel_rfl) (by kernel_rfl) (by kernel_rfl) (fun _ _ _ h => h) (Or.inl ⟨by rfl, ?_⟩) (by assumption) ?_
                rotate_left
                · intro w_ hSw_; (try dsimp only at hSw_); go_simp; (try with_reducible rfl)
                try simp only [Act.put, List.setIfInBounds_toArray, List.set_cons_zero, List.set_cons_succ]
                refine take_op 7 (some 36) (v := ?_) rfl rfl (by kernel_rfl) (by kernel_rfl) (by kernel_rfl) (fun _ _ _ h => h) (Or.inl ⟨by rfl, ?_⟩) (by assumption) ?_
                rotate_left
                · intro w_ hSw_; (try dsimp only at hSw_); go_simp; (try with_reducible rfl)
                try simp only [Act.put, List.setIfInBounds_toArray, List.set_cons_zero, List.set_cons_succ]
                refine take_op 8 (some 37) (v := ?_) rfl rfl (by kernel_rfl) (by kernel_rfl) (by kernel_rfl) (fun _ _ _ h => h) (Or.inl ⟨by rfl, ?_⟩) (by assumption) ?_
                rotate_left
                · intro w_ hSw_; (try dsimp only at hSw_); go_simp; (try with_reducible rfl)
                try simp only [Act.put, List.setIfInBounds_toArray, List.set_cons_zero, List.set_cons_succ]
                refine take_op 9 (some 38) (v := ?_) rfl rfl (by kernel_rfl) (by kernel_rfl) (by kernel_rfl) (fun _ _ _ h => h) (Or.inl ⟨by rfl, ?_⟩) (by assumption) ?_
                rotate_left
                · intro w_ hSw_; (try dsimp only at hSw_); go_simp; (try with_reducible rfl)
                try simp only [Act.put, List.setIfInBounds_toArray, List.set_cons_zero, List.set_cons_succ]
                refine take_op 10 (some 39) (v := ?_) rfl rfl (by kernel_rfl) (by kernel_rfl) (by kernel_rfl) (fun _ _ _ h => h) (Or.inl ⟨by rfl, ?_⟩) (by assumption) ?_
                rotate_left
                · intro w_ hSw_; (try dsimp only at hSw_); go_simp; (try with_reducible rfl)
                try simp only [Act.put, List.setIfInBounds_toArray, List.set_cons_zero, List.set_cons_succ]
                refine take_op 11 (some 40) (v := ?_) rfl rfl (by kernel_rfl) (by kernel_rfl) (by kernel_rfl) (fun _ _ _ h => h) (Or.inl ⟨by rfl, ?_⟩) (by assumption) ?_
                rotate_left
                · intro w_ hSw_; (try dsimp only at hSw_); go_simp; (try with_reducible rfl)
                try simp only [Act.put, List.setIfInBounds_toArray, List.set_cons_zero, List.set_cons_succ]
                refine take_op 12 (some 41) (v := ?_) rfl rfl (by kernel_rfl) (by kernel_rfl) (by kernel_rfl) (fun _ _ _ h => h) (Or.inl ⟨by rfl, ?_⟩) (by assumption) ?_
                rotate_left
                · intro w_ hSw_; (try dsimp only at hSw_); go_simp; (try with_reducible rfl)
                try simp only [Act.put, List.setIfInBounds_toArray, List.set_cons_zero, List.set_cons_succ]
                first | rw [hc1.out] | skip
                refine take_op 13 (some 42) (v := ?_) rfl rfl (by kernel_rfl) (by kernel_rfl) (by kernel_rfl) (fun _ _ _ h => h) (Or.inl ⟨by rfl, ?_⟩) (by assumption) ?_
                rotate_left
                · intro w_ hSw_; (try dsimp only at hSw_); go_simp; (try with_reducible rfl)
                try simp only [Act.put, List.setIfInBounds_toArray, List.set_cons_zero, List.set_cons_succ]
                refine take_op 14 (some 43) (v := ?_) rfl rfl (by kernel_rfl) (by kernel_rfl) (by kernel_rfl) (fun _ _ _ h => h) (Or.inl ⟨by rfl, ?_⟩) (by assumption) ?_
                rotate_left
                · intro w_ hSw_; (try dsimp only at hSw_); go_simp; (try with_reducible rfl)
                try simp only [Act.put, List.setIfInBounds_toArray, List.set_cons_zero, List.set_cons_succ]
                refine take_op 15 (some 44) (v := ?_) rfl rfl (by kernel_rfl) (by kernel_rfl) (by kernel_rfl) (fun _ _ _ h => h) (Or.inl ⟨by rfl, ?_⟩) (by assumption) ?_
                rotate_left
                · intro w_ hSw_; (try dsimp only at hSw_); go_simp; (try with_reducible rfl)
                try simp only [Act.put, List.setIfInBounds_toArray, List.set_cons_zero, List.set_cons_succ]
                refine take_op 16 (some 45) (v := ?_) rfl rfl (by kernel_rfl) (by kernel_rfl) (by kernel_rfl) (fun _ _ _ h => h) (Or.inl ⟨by rfl, ?_⟩) (by assumption) ?_
                rotate_left
                · intro w_ hSw_; (try dsimp only at hSw_); go_simp; (try with_reducible rfl)
                try simp only [Act.put, List.setIfInBounds_toArray, List.set_cons_zero, List.set_cons_succ]
                refine take_op 17 (some 46) (v := ?_) rfl rfl (by kernel_rfl) (by kernel_rfl) (by kernel_rfl) (fun _ _ _ h => h) (Or.inl ⟨by rfl, ?_⟩) (by assumption) ?_
                rotate_left
                · intro w_ hSw_; (try dsimp only at hSw_); go_simp; (try with_reducible rfl)
                try simp only [Act.put, List.setIfInBounds_toArray, List.set_cons_zero, List.set_cons_succ]
                refine take_op 18 (some 47) (v := ?_) rfl rfl (by kernel_rfl) (by kernel_rfl) (by kernel_rfl) (fun _ _ _ h => h) (Or.inl ⟨by rfl, ?_⟩) (by assumption) ?_
                rotate_left
                · intro w_ hSw_; (try dsimp only at hSw_); go_simp; (try with_reducible rfl)
                try simp only [Act.put, List.setIfInBounds_toArray, List.set_cons_zero, List.set_cons_succ]
                refine take_op 19 (some 48) (v := ?_) rfl rfl (by kernel_rfl) (by kernel_rfl) (by kernel_rfl) (fun _ _ _ h => h) (Or.inl ⟨by rfl, ?_⟩) (by assumption) ?_
                rotate_left
                · intro w_ hSw_; (try dsimp only at hSw_); go_simp; (try with_reducible rfl)
                try simp only [Act.put, List.setIfInBounds_toArray, List.set_cons_zero, List.set_cons_succ]
                refine take_op 20 (some 49) (v := ?_) rfl rfl (by kernel_rfl) (by kernel_rfl) (by kernel_rfl) (fun _ _ _ h => h) (Or.inl ⟨by rfl, ?_⟩) (by assumption) ?_
                rotate_left
                · intro w_ hSw_; (try dsimp only at hSw_); go_simp; (try with_reducible rfl)
                try simp only [Act.put, List.setIfInBounds_toArray, List.set_cons_zero, List.set_cons_succ]
                refine take_op 21 (some 50) (v := ?_) rfl rfl (by kernel_rfl) (by kernel_rfl) (by kernel_rfl) (fun _ _ _ h => h) (Or.inl ⟨by rfl, ?_⟩) (by assumption) ?_
                rotate_left
                · intro w_ hSw_; (try dsimp only at hSw_); go_simp; (try with_reducible rfl)
                try simp only [Act.put, List.setIfInBounds_toArray, List.set_cons_zero, List.set_cons_succ]
                first | rw [hd1.out] | skip
                refine take_op 22 (some 51) (v := ?_) rfl rfl (by kernel_rfl) (by kernel_rfl) (by kernel_rfl) (fun _ _ _ h => h) (Or.inl ⟨by rfl, ?_⟩) (by assumption) ?_
                rotate_left
                · intro w_ hSw_; (try dsimp only at hSw_); go_simp; (try with_reducible rfl)
                try simp only [Act.put, List.setIfInBounds_toArray, List.set_cons_zero, List.set_cons_succ]
                refine take_op 23 (some 52) (v := ?_) rfl rfl (by kernel_rfl) (by kernel_rfl) (by kernel_rfl) (fun _ _ _ h => h) (Or.inl ⟨by rfl, ?_⟩) (by assumption) ?_
                rotate_left
                · intro w_ hSw_; (try dsimp only at hSw_); go_simp; (try with_reducible rfl)
                try simp only [Act.put, List.setIfInBounds_toArray, List.set_cons_zero, List.set_cons_succ]
                refine take_op 24 (some 53) (v := ?_) rfl rfl (by kernel_rfl) (by kernel_rfl) (by kernel_rfl) (fun _ _ _ h => h) (Or.inl ⟨by rfl, ?_⟩) (by assumption) ?_
                rotate_left
                · intro w_ hSw_; (try dsimp only at hSw_); go_simp; (try with_reducible rfl)
                try simp only [Act.put, List.setIfInBounds_toArray, List.set_cons_zero, List.set_cons_succ]
                refine take_op 25 (some 54) (v := ?_) rfl rfl (by kernel_rfl) (by kernel_rfl) (by kernel_rfl) (fun _ _ _ h => h) (Or.inl ⟨by rfl, ?_⟩) (by assumption) ?_
                rotate_left
                · intro w_ hSw_; (try dsimp only at hSw_); go_simp; (try with_reducible rfl)
                try simp only [Act.put, List.setIfInBounds_toArray, List.set_cons_zero, List.set_cons_succ]
                refine take_op 26 (some 55) (v := ?_) rfl rfl (by kernel_rfl) (by kernel_rfl) (by kernel_rfl) (fun _ _ _ h => h) (Or.inl ⟨by rfl, ?_⟩) (by assumption) ?_
                rotate_left
                · intro w_ hSw_; (try dsimp only at hSw_); go_simp; (try with_reducible rfl)
                try simp only [Act.put, List.setIfInBounds_toArray, List.set_cons_zero, List.set_cons_succ]
                refine take_op 27 (some 56) (v := ?_) rfl rfl (by kernel_rfl) (by kernel_rfl) (by kernel_rfl) (fun _ _ _ h => h) (Or.inl ⟨by rfl, ?_⟩) (by assumption) ?_
                rotate_left
                · intro w_ hSw_; (try dsimp only at hSw_); go_simp; (try with_reducible rfl)
                try simp only [Act.put, List.setIfInBounds_toArray, List.set_cons_zero, List.set_cons_succ]
                refine take_op 28 (some 57) (v := ?_) rfl rfl (by kernel_rfl) (by kernel_rfl) (by kernel_rfl) (fun _ _ _ h => h) (Or.inl ⟨by rfl, ?_⟩) (by assumption) ?_
                rotate_left
                · intro w_ hSw_; (try dsimp only at hSw_); go_simp; (try with_reducible rfl)
                try simp only [Act.put, List.setIfInBounds_toArray, List.set_cons_zero, List.set_cons_succ]
                refine take_op 29 (some 58) (v := ?_) rfl rfl (by kernel_rfl) (by kernel_rfl) (by kernel_rfl) (fun _ _ _ h => h) (Or.inl ⟨by rfl, ?_⟩) (by assumption) ?_
                rotate_left
                · intro w_ hSw_; (try dsimp only at hSw_); go_simp; (try with_reducible rfl)
                try simp only [Act.put, List.setIfInBounds_toArray, List.set_cons_zero, List.set_cons_succ]
                refine take_op 30 (some 59) (v := ?_) rfl rfl (by kernel_rfl) (by kernel_rfl) (by kernel_rfl) (fun _ _ _ h => h) (Or.inl ⟨by rfl, ?_⟩) (by assumption) ?_
                rotate_left
                · intro w_ hSw_; (try dsimp only at hSw_); go_simp; (try with_reducible rfl)
                try simp only [Act.put, List.setIfInBounds_toArray, List.set_cons_zero, List.set_cons_succ]
                first | rw [he1.out] | skip
                refine take_op 31 (some 60) (v := ?_) rfl rfl (by kernel_rfl) (by kernel_rfl) (by kernel_rfl) (fun _ _ _ h => h) (Or.inl ⟨by rfl, ?_⟩) (by assumption) ?_
                rotate_left
                · intro w_ hSw_; (try dsimp only at hSw_); go_simp; (try with_reducible rfl)
                try simp only [Act.put, List.setIfInBounds_toArray, List.set_cons_zero, List.set_cons_succ]
                refine take_op 32 (some 61) (v := ?_) rfl rfl (by kernel_rfl) (by kernel_rfl) (by kernel_rfl) (fun _ _ _ h => h) (Or.inl ⟨by rfl, ?_⟩) (by assumption) ?_
                rotate_left
                · intro w_ hSw_; (try dsimp only at hSw_); go_simp; (try with_reducible rfl)
                try simp only [Act.put, List.setIfInBounds_toArray, List.set_cons_zero, List.set_cons_succ]
                refine take_op 33 (some 62) (v := ?_) rfl rfl (by kernel_rfl) (by kernel_rfl) (by kernel_rfl) (fun _ _ _ h => h) (Or.inl ⟨by rfl, ?_⟩) (by assumption) ?_
                rotate_left
                · intro w_ hSw_; (try dsimp only at hSw_); go_simp; (try with_reducible rfl)
                try simp only [Act.put, List.setIfInBounds_toArray, List.set_cons_zero, List.set_cons_succ]
                refine wpAnyH_done (by kernel_rfl) ?_ _
                clear hHeld
                go_wp2_with fail
                go_roundw
                case rel =>
                  refine ⟨k + 1, by omega, by go_num, ?_, ?_⟩
                  · intro j z hj hz
                    rcases Nat.lt_or_ge j k with h9 | h9
                    · exact HLT.out j z h9 hz
                    · obtain rfl : k = j := by omega
                      rw [HY.out] at hz
                      obtain rfl := Option.some.inj hz
                      unfold ltK keyE
                      dsimp only
                      have := of_decide_eq_true he1.out
                      omega
                  · exact HBW.out.drew
                case measure => simp [intOf]; omega
              · have he1 : Hid (decide (y2 < x2) = false) := Lib.hid (decide_eq_false he)
                by_cases hf : y2 = x2
                · have hf := hf.symm
                  subst hf
                  have hf1 : Hid (@bne Int instBEqOfDecidableEq x2 x2 = false) := Lib.hid (by simp)
                  have HGL : Hid (g < wi.heap.size ∧ True) := Lib.hid ⟨by
                    rcases own_ad HOWI.out with ⟨h, _⟩ | ⟨g', h, _, h9, _⟩
                    · omega
                    · injection h with h
                      injection h with h
                      omega, trivial⟩
                  have HGL : Hid (g < wi.heap.size) := Lib.hid HGL.out.1
                  have HGW : Hid (w6.heap.size ≤ g) := Lib.hid (by
                    rcases own_ad HOWI.out with ⟨h, _⟩ | ⟨g', h, h9, _⟩
                    · omega
                    · injection h with h
                      injection h with h
                      omega)
                  clear hc he
                  go_wp2_with fail
                  refine wp_region_held_drew (S := fun w' => w'.cell? ⟨g, k * 3, none⟩ = some (.int .i64 x1) ∧ w'.cell? ⟨g, k * 3 + 1, none⟩ = some (.int .i64 x2) ∧ w'.cell? ⟨bx, 0, none⟩ = some (.int .i64 x1) ∧ w'.cell? ⟨bx, 1, none⟩ = some (.int .i64 x2)) (by kernel_rfl) ⟨Y0, Y1, X0.out, X1.out⟩ (fun hHeld => ?_)
                  refine take_op 0 (some 29) (v := ?_) rfl rfl (by kernel_rfl) (by kernel_rfl) (by kernel_rfl) (fun _ _ _ h => h) (Or.inl ⟨by rfl, ?_⟩) (by assumption) ?_
                  rotate_left
                  · intro w_ hSw_; (try dsimp only at hSw_); go_simp; (try with_reducible rfl)
                  try simp only [Act.put, List.setIfInBounds_toArray, List.set_cons_zero, List.set_cons_succ]
                  refine take_op 1 (some 30) (v := ?_) rfl rfl (by kernel_rfl) (by kernel_rfl) (by kernel_rfl) (fun _ _ _ h => h) (Or.inl ⟨by rfl, ?_⟩) (by assumption) ?_
                  rotate_left
                  · intro w_ hSw_; (try dsimp only at hSw_); go_simp; (try with_reducible rfl)
                  try simp only [Act.put, List.setIfInBounds_toArray, List.set_cons_zero, List.set_cons_succ]
                  refine take_op 2 (some 31) (v := ?_) rfl rfl (by kernel_rfl) (by kernel_rfl) (by kernel_rfl) (fun _ _ _ h => h) (Or.inl ⟨by rfl, ?_⟩) (by assumption) ?_
                  rotate_left
                  · intro w_ hSw_; (try dsimp only at hSw_); go_simp; (try with_reducible rfl)
                  try simp only [Act.put, List.setIfInBounds_toArray, List.set_cons_zero, List.set_cons_succ]
                  refine take_op 3 (some 32) (v := ?_) rfl rfl (by kernel_rfl) (by kernel_rfl) (by kernel_rfl) (fun _ _ _ h => h) (Or.inl ⟨by rfl, ?_⟩) (by assumption) ?_
                  rotate_left
                  · intro w_ hSw_; (try dsimp only at hSw_); go_simp; (try with_reducible rfl)
                  try simp only [Act.put, List.setIfInBounds_toArray, List.set_cons_zero, List.set_cons_succ]
                  first | rw [ik.out] | rw [ik9.out] | skip
                  refine take_op 4 (some 33) (v := ?_) rfl rfl (by kernel_rfl) (by kernel_rfl) (by kernel_rfl) (fun _ _ _ h => h) (Or.inl ⟨by rfl, ?_⟩) (by assumption) ?_
                  rotate_left
                  · intro w_ hSw_; (try dsimp only at hSw_); go_simp; (try with_reducible rfl)
                  try simp only [Act.put, List.setIfInBounds_toArray, List.set_cons_zero, List.set_cons_succ]
                  refine take_op 5 (some 34) (v := ?_) rfl rfl (by kernel_rfl) (by kernel_rfl) (by kernel_rfl) (fun _ _ _ h => h) (Or.inl ⟨by rfl, ?_⟩) (by assumption) ?_
                  rotate_left
                  · intro w_ hSw_; (try dsimp only at hSw_); go_simp; (try with_reducible rfl)
                  try simp only [Act.put, List.setIfInBounds_toArray, List.set_cons_zero, List.set_cons_succ]
                  refine take_op 6 (some 35) (v := ?_) rfl rfl (by kernel_rfl) (by kernel_rfl) (by kernel_rfl) (fun _ _ _ h => h) (Or.inl ⟨by rfl, ?_⟩) (by assumption) ?_
                  rotate_left
                  · intro w_ hSw_; (try dsimp only at hSw_); go_simp; (try with_reducible rfl)
                  try simp only [Act.put, List.setIfInBounds_toArray, List.set_cons_zero, List.set_cons_succ]
                  refine take_op 7 (some 36) (v := ?_) rfl rfl (by kernel_rfl) (by kernel_rfl) (by kernel_rfl) (fun _ _ _ h => h) (Or.inl ⟨by rfl, ?_⟩) (by assumption) ?_
                  rotate_left
                  · intro w_ hSw_; (try dsimp only at hSw_); go_simp; (try with_reducible rfl)
                  try simp only [Act.put, List.setIfInBounds_toArray, List.set_cons_zero, List.set_cons_succ]
                  refine take_op 8 (some 37) (v := ?_) rfl rfl (by kernel_rfl) (by kernel_rfl) (by kernel_rfl) (fun _ _ _ h => h) (Or.inl ⟨by rfl, ?_⟩) (by assumption) ?_
                  rotate_left
                  · intro w_ hSw_; (try dsimp only at hSw_); go_simp; (try with_reducible rfl)
                  try simp only [Act.put, List.setIfInBounds_toArray, List.set_cons_zero, List.set_cons_succ]
                  refine take_op 9 (some 38) (v := ?_) rfl rfl (by kernel_rfl) (by kernel_rfl) (by kernel_rfl) (fun _ _ _ h => h) (Or.inl ⟨by rfl, ?_⟩) (by assumption) ?_
                  rotate_left
                  · intro w_ hSw_; (try dsimp only at hSw_); go_simp; (try with_reducible rfl)
                  try simp only [Act.put, List.setIfInBounds_toArray, List.set_cons_zero, List.set_cons_succ]
                  refine take_op 10 (some 39) (v := ?_) rfl rfl (by kernel_rfl) (by kernel_rfl) (by kernel_rfl) (fun _ _ _ h => h) (Or.inl ⟨by rfl, ?_⟩) (by assumption) ?_
                  rotate_left
                  · intro w_ hSw_; (try dsimp only at hSw_); go_simp; (try with_reducible rfl)
                  try simp only [Act.put, List.setIfInBounds_toArray, List.set_cons_zero, List.set_cons_succ]
                  refine take_op 11 (some 40) (v := ?_) rfl rfl (by kernel_rfl) (by kernel_rfl) (by kernel_rfl) (fun _ _ _ h => h) (Or.inl ⟨by rfl, ?_⟩) (by assumption) ?_
                  rotate_left
                  · intro w_ hSw_; (try dsimp only at hSw_); go_simp; (try with_reducible rfl)
                  try simp only [Act.put, List.setIfInBounds_toArray, List.set_cons_zero, List.set_cons_succ]
                  refine take_op 12 (some 41) (v := ?_) rfl rfl (by kernel_rfl) (by kernel_rfl) (by kernel_rfl) (fun _ _ _ h => h) (Or.inl ⟨by rfl, ?_⟩) (by assumption) ?_
                  rotate_left
                  · intro w_ hSw_; (try dsimp only at hSw_); go_simp; (try with_reducible rfl)
                  try simp only [Act.put, List.setIfInBounds_toArray, List.set_cons_zero, List.set_cons_succ]
                  first | rw [hc1.out] | skip
                  refine take_op 13 (some 42) (v := ?_) rfl rfl (by kernel_rfl) (by kernel_rfl) (by kernel_rfl) (fun _ _ _ h => h) (Or.inl ⟨by rfl, ?_⟩) (by assumption) ?_
                  rotate_left
                  · intro w_ hSw_; (try dsimp only at hSw_); go_simp; (try with_reducible rfl)
                  try simp only [Act.put, List.setIfInBounds_toArray, List.set_cons_zero, List.set_cons_succ]
                  refine take_op 14 (some 43) (v := ?_) rfl rfl (by kernel_rfl) (by kernel_rfl) (by kernel_rfl) (fun _ _ _ h => h) (Or.inl ⟨by rfl, ?_⟩) (by assumption) ?_
                  rotate_left
                  · intro w_ hSw_; (try dsimp only at hSw_); go_simp; (try with_reducible rfl)
                  try simp only [Act.put, List.setIfInBounds_toArray, List.set_cons_zero, List.set_cons_succ]
                  refine take_op 15 (some 44) (v := ?_) rfl rfl (by kernel_rfl) (by kernel_rfl) (by kernel_rfl) (fun _ _ _ h => h) (Or.inl ⟨by rfl, ?_⟩) (by assumption) ?_
                  rotate_left
                  · intro w_ hSw_; (try dsimp only at hSw_); go_simp; (try with_reducible rfl)
                  try simp only [Act.put, List.setIfInBounds_toArray, List.set_cons_zero, List.set_cons_succ]
                  refine take_op 16 (some 45) (v := ?_) rfl rfl (by kernel_rfl) (by kernel_rfl) (by kernel_rfl) (fun _ _ _ h => h) (Or.inl ⟨by rfl, ?_⟩) (by assumption) ?_
                  rotate_left
                  · intro w_ hSw_; (try dsimp only at hSw_); go_simp; (try with_reducible rfl)
                  try simp only [Act.put, List.setIfInBounds_toArray, List.set_cons_zero, List.set_cons_succ]
                  refine take_op 17 (some 46) (v := ?_) rfl rfl (by kernel_rfl) (by kernel_rfl) (by kernel_rfl) (fun _ _ _ h => h) (Or.inl ⟨by rfl, ?_⟩) (by assumption) ?_
                  rotate_left
                  · intro w_ hSw_; (try dsimp only at hSw_); go_simp; (try with_reducible rfl)
                  try simp only [Act.put, List.setIfInBounds_toArray, List.set_cons_zero, List.set_cons_succ]
                  refine take_op 18 (some 47) (v := ?_) rfl rfl (by kernel_rfl) (by kernel_rfl) (by kernel_rfl) (fun _ _ _ h => h) (Or.inl ⟨by rfl, ?_⟩) (by assumption) ?_
                  rotate_left
                  · intro w_ hSw_; (try dsimp only at hSw_); go_simp; (try with_reducible rfl)
                  try simp only [Act.put, List.setIfInBounds_toArray, List.set_cons_zero, List.set_cons_succ]
                  refine take_op 19 (some 48) (v := ?_) rfl rfl (by kernel_rfl) (by kernel_rfl) (by kernel_rfl) (fun _ _ _ h => h) (Or.inl ⟨by rfl, ?_⟩) (by assumption) ?_
                  rotate_left
                  · intro w_ hSw_; (try dsimp only at hSw_); go_simp; (try with_reducible rfl)
                  try simp only [Act.put, List.setIfInBounds_toArray, List.set_cons_zero, List.set_cons_succ]
                  refine take_op 20 (some 49) (v := ?_) rfl rfl (by kernel_rfl) (by kernel_rfl) (by kernel_rfl) (fun _ _ _ h => h) (Or.inl ⟨by rfl, ?_⟩) (by assumption) ?_
                  rotate_left
                  · intro w_ hSw_; (try dsimp only at hSw_); go_simp; (try with_reducible rfl)
                  try simp only [Act.put, List.setIfInBounds_toArray, List.set_cons_zero, List.set_cons_succ]
                  refine take_op 21 (some 50) (v := ?_) rfl rfl (by kernel_rfl) (by kernel_rfl) (by kernel_rfl) (fun _ _ _ h => h) (Or.inl ⟨by rfl, ?_⟩) (by assumption) ?_
                  rotate_left
                  · intro w_ hSw_; (try dsimp only at hSw_); go_simp; (try with_reducible rfl)
                  try simp only [Act.put, List.setIfInBounds_toArray, List.set_cons_zero, List.set_cons_succ]
                  first | rw [hd1.out] | skip
                  refine take_op 22 (some 51) (v := ?_) rfl rfl (by kernel_rfl) (by kernel_rfl) (by kernel_rfl) (fun _ _ _ h => h) (Or.inl ⟨by rfl, ?_⟩) (by assumption) ?_
                  rotate_left
                  · intro w_ hSw_; (try dsimp only at hSw_); go_simp; (try with_reducible rfl)
                  try simp only [Act.put, List.setIfInBounds_toArray, List.set_cons_zero, List.set_cons_succ]
                  refine take_op 23 (some 52) (v := ?_) rfl rfl (by kernel_rfl) (by kernel_rfl) (by kernel_rfl) (fun _ _ _ h => h) (Or.inl ⟨by rfl, ?_⟩) (by assumption) ?_
                  rotate_left
                  · intro w_ hSw_; (try dsimp only at hSw_); go_simp; (try with_reducible rfl)
                  try simp only [Act.put, List.setIfInBounds_toArray, List.set_cons_zero, List.set_cons_succ]
                  refine take_op 24 (some 53) (v := ?_) rfl rfl (by kernel_rfl) (by kernel_rfl) (by kernel_rfl) (fun _ _ _ h => h) (Or.inl ⟨by rfl, ?_⟩) (by assumption) ?_
                  rotate_left
                  · intro w_ hSw_; (try dsimp only at hSw_); go_simp; (try with_reducible rfl)
                  try simp only [Act.put, List.setIfInBounds_toArray, List.set_cons_zero, List.set_cons_succ]
                  refine take_op 25 (some 54) (v := ?_) rfl rfl (by kernel_rfl) (by kernel_rfl) (by kernel_rfl) (fun _ _ _ h => h) (Or.inl ⟨by rfl, ?_⟩) (by assumption) ?_
                  rotate_left
                  · intro w_ hSw_; (try dsimp only at hSw_); go_simp; (try with_reducible rfl)
                  try simp only [Act.put, List.setIfInBounds_toArray, List.set_cons_zero, List.set_cons_succ]
                  refine take_op 26 (some 55) (v := ?_) rfl rfl (by kernel_rfl) (by kernel_rfl) (by kernel_rfl) (fun _ _ _ h => h) (Or.inl ⟨by rfl, ?_⟩) (by assumption) ?_
                  rotate_left
                  · intro w_ hSw_; (try dsimp only at hSw_); go_simp; (try with_reducible rfl)
                  try simp only [Act.put, List.setIfInBounds_toArray, List.set_cons_zero, List.set_cons_succ]
                  refine take_op 27 (some 56) (v := ?_) rfl rfl (by kernel_rfl) (by kernel_rfl) (by kernel_rfl) (fun _ _ _ h => h) (Or.inl ⟨by rfl, ?_⟩) (by assumption) ?_
                  rotate_left
                  · intro w_ hSw_; (try dsimp only at hSw_); go_simp; (try with_reducible rfl)
                  try simp only [Act.put, List.setIfInBounds_toArray, List.set_cons_zero, List.set_cons_succ]
                  refine take_op 28 (some 57) (v := ?_) rfl rfl (by kernel_rfl) (by kernel_rfl) (by kernel_rfl) (fun _ _ _ h => h) (Or.inl ⟨by rfl, ?_⟩) (by assumption) ?_
                  rotate_left
                  · intro w_ hSw_; (try dsimp only at hSw_); go_simp; (try with_reducible rfl)
                  try simp only [Act.put, List.setIfInBounds_toArray, List.set_cons_zero, List.set_cons_succ]
                  refine take_op 29 (some 58) (v := ?_) rfl rfl (by kernel_rfl) (by kernel_rfl) (by kernel_rfl) (fun _ _ _ h => h) (Or.inl ⟨by rfl, ?_⟩) (by assumption) ?_
                  rotate_left
                  · intro w_ hSw_; (try dsimp only at hSw_); go_simp; (try with_reducible rfl)
                  try simp only [Act.put, List.setIfInBounds_toArray, List.set_cons_zero, List.set_cons_succ]
                  refine take_op 30 (some 59) (v := ?_) rfl rfl (by kernel_rfl) (by kernel_rfl) (by kernel_rfl) (fun _ _ _ h => h) (Or.inl ⟨by rfl, ?_⟩) (by assumption) ?_
                  rotate_left
                  · intro w_ hSw_; (try dsimp only at hSw_); go_simp; (try with_reducible rfl)
                  try simp only [Act.put, List.setIfInBounds_toArray, List.set_cons_zero, List.set_cons_succ]
                  first | rw [he1.out] | skip
                  refine take_op 31 (some 60) (v := ?_) rfl rfl (by kernel_rfl) (by kernel_rfl) (by kernel_rfl) (fun _ _ _ h => h) (Or.inl ⟨by rfl, ?_⟩) (by assumption) ?_
                  rotate_left
                  · intro w_ hSw_; (try dsimp only at hSw_); go_simp; (try with_reducible rfl)
                  try simp only [Act.put, List.setIfInBounds_toArray, List.set_cons_zero, List.set_cons_succ]
                  refine take_op 32 (some 61) (v := ?_) rfl rfl (by kernel_rfl) (by kernel_rfl) (by kernel_rfl) (fun _ _ _ h => h) (Or.inl ⟨by rfl, ?_⟩) (by assumption) ?_
                  rotate_left
                  · intro w_ hSw_; (try dsimp only at hSw_); go_simp; (try with_reducible rfl)
                  try simp only [Act.put, List.setIfInBounds_toArray, List.set_cons_zero, List.set_cons_succ]
                  refine take_op 33 (some 62) (v := ?_) rfl rfl (by kernel_rfl) (by kernel_rfl) (by kernel_rfl) (fun _ _ _ h => h) (Or.inl ⟨by rfl, ?_⟩) (by assumption) ?_
                  rotate_left
                  · intro w_ hSw_; (try dsimp only at hSw_); go_simp; (try with_reducible rfl)
                  try simp only [Act.put, List.setIfInBounds_toArray, List.set_cons_zero, List.set_cons_succ]
                  refine wpAnyH_done (by kernel_rfl) ?_ _
                  clear hHeld
                  go_wp2_with fail
                  refine wp_region_held_drew (S := fun w' => w'.cell? ⟨g, k * 3, none⟩ = some (.int .i64 x1) ∧ w'.cell? ⟨g, k * 3 + 1, none⟩ = some (.int .i64 x2) ∧ w'.cell? ⟨bx, 0, none⟩ = some (.int .i64 x1) ∧ w'.cell? ⟨bx, 1, none⟩ = some (.int .i64 x2)) (by kernel_rfl) ⟨Y0, Y1, X0.out, X1.out⟩ (fun hHeld => ?_)
                  refine take_op 0 (some 65) (v := ?_) rfl rfl (by kernel_rfl) (by kernel_rfl) (by kernel_rfl) (fun _ _ _ h => h) (Or.inl ⟨by rfl, ?_⟩) (by assumption) ?_
                  rotate_left
                  · intro w_ hSw_; (try dsimp only at hSw_); go_simp; (try with_reducible rfl)
                  try simp only [Act.put, List.setIfInBounds_toArray, List.set_cons_zero, List.set_cons_succ]
                  refine take_op 1 (some 66) (v := ?_) rfl rfl (by kernel_rfl) (by kernel_rfl) (by kernel_rfl) (fun _ _ _ h => h) (Or.inl ⟨by rfl, ?_⟩) (by assumption) ?_
                  rotate_left
                  · intro w_ hSw_; (try dsimp only at hSw_); go_simp; (try with_reducible rfl)
                  try simp only [Act.put, List.setIfInBounds_toArray, List.set_cons_zero, List.set_cons_succ]
                  refine take_op 2 (some 67) (v := ?_) rfl rfl (by kernel_rfl) (by kernel_rfl) (by kernel_rfl) (fun _ _ _ h => h) (Or.inl ⟨by rfl, ?_⟩) (by assumption) ?_
                  rotate_left
                  · intro w_ hSw_; (try dsimp only at hSw_); go_simp; (try with_reducible rfl)
                  try simp only [Act.put, List.setIfInBounds_toArray, List.set_cons_zero, List.set_cons_succ]
                  refine take_op 3 (some 68) (v := ?_) rfl rfl (by kernel_rfl) (by kernel_rfl) (by kernel_rfl) (fun _ _ _ h => h) (Or.inl ⟨by rfl, ?_⟩) (by assumption) ?_
                  rotate_left
                  · intro w_ hSw_; (try dsimp only at hSw_); go_simp; (try with_reducible rfl)
                  try simp only [Act.put, List.setIfInBounds_toArray, List.set_cons_zero, List.set_cons_succ]
                  first | rw [nk.out] | skip
                  refine take_op 4 (some 69) (v := ?_) rfl rfl (by kernel_rfl) (by kernel_rfl) (by kernel_rfl) (fun _ _ _ h => h) (Or.inl ⟨by rfl, ?_⟩) (by assumption) ?_
                  rotate_left
                  · intro w_ hSw_; (try dsimp only at hSw_); go_simp; (try with_reducible rfl)
                  try simp only [Act.put, List.setIfInBounds_toArray, List.set_cons_zero, List.set_cons_succ]
                  refine take_op 5 (some 70) (v := ?_) rfl rfl (by kernel_rfl) (by kernel_rfl) (by kernel_rfl) (fun _ _ _ h => h) (Or.inl ⟨by rfl, ?_⟩) (by assumption) ?_
                  rotate_left
                  · intro w_ hSw_; (try dsimp only at hSw_); go_simp; (try with_reducible rfl)
                  try simp only [Act.put, List.setIfInBounds_toArray, List.set_cons_zero, List.set_cons_succ]
                  refine take_op 6 (some 71) (v := ?_) rfl rfl (by kernel_rfl) (by kernel_rfl) (by kernel_rfl) (fun _ _ _ h => h) (Or.inl ⟨by rfl, ?_⟩) (by assumption) ?_
                  rotate_left
                  · intro w_ hSw_; (try dsimp only at hSw_); go_simp; (try with_reducible rfl)
                  try simp only [Act.put, List.setIfInBounds_toArray, List.set_cons_zero, List.set_cons_succ]
                  refine take_op 7 (some 72) (v := ?_) rfl rfl (by kernel_rfl) (by kernel_rfl) (by kernel_rfl) (fun _ _ _ h => h) (Or.inl ⟨by rfl, ?_⟩) (by assumption) ?_
                  rotate_left
                  · intro w_ hSw_; (try dsimp only at hSw_); go_simp; (try with_reducible rfl)
                  try simp only [Act.put, List.setIfInBounds_toArray, List.set_cons_zero, List.set_cons_succ]
                  refine take_op 8 (some 73) (v := ?_) rfl rfl (by kernel_rfl) (by kernel_rfl) (by kernel_rfl) (fun _ _ _ h => h) (Or.inl ⟨by rfl, ?_⟩) (by assumption) ?_
                  rotate_left
                  · intro w_ hSw_; (try dsimp only at hSw_); go_simp; (try with_reducible rfl)
                  try simp only [Act.put, List.setIfInBounds_toArray, List.set_cons_zero, List.set_cons_succ]
                  refine take_op 9 (some 74) (v := ?_) rfl rfl (by kernel_rfl) (by kernel_rfl) (by kernel_rfl) (fun _ _ _ h => h) (Or.inl ⟨by rfl, ?_⟩) (by assumption) ?_
                  rotate_left
                  · intro w_ hSw_; (try dsimp only at hSw_); go_simp; (try with_reducible rfl)
                  try simp only [Act.put, List.setIfInBounds_toArray, List.set_cons_zero, List.set_cons_succ]
                  refine take_op 10 (some 75) (v := ?_) rfl rfl (by kernel_rfl) (by kernel_rfl) (by kernel_rfl) (fun _ _ _ h => h) (Or.inl ⟨by rfl, ?_⟩) (by assumption) ?_
                  rotate_left
                  · intro w_ hSw_; (try dsimp only at hSw_); go_simp; (try with_reducible rfl)
                  try simp only [Act.put, List.setIfInBounds_toArray, List.set_cons_zero, List.set_cons_succ]
                  refine take_op 11 (some 76) (v := ?_) rfl rfl (by kernel_rfl) (by kernel_rfl) (by kernel_rfl) (fun _ _ _ h => h) (Or.inl ⟨by rfl, ?_⟩) (by assumption) ?_
                  rotate_left
                  · intro w_ hSw_; (try dsimp only at hSw_); go_simp; (try with_reducible rfl)
                  try simp only [Act.put, List.setIfInBounds_toArray, List.set_cons_zero, List.set_cons_succ]
                  refine take_op 12 (some 77) (v := ?_) rfl rfl (by kernel_rfl) (by kernel_rfl) (by kernel_rfl) (fun _ _ _ h => h) (Or.inl ⟨by rfl, ?_⟩) (by assumption) ?_
                  rotate_left
                  · intro w_ hSw_; (try dsimp only at hSw_); go_simp; (try with_reducible rfl)
                  try simp only [Act.put, List.setIfInBounds_toArray, List.set_cons_zero, List.set_cons_succ]
                  first | rw [hd2.out] | skip
                  refine take_op 13 (some 78) (v := ?_) rfl rfl (by kernel_rfl) (by kernel_rfl) (by kernel_rfl) (fun _ _ _ h => h) (Or.inl ⟨by rfl, ?_⟩) (by assumption) ?_
                  rotate_left
                  · intro w_ hSw_; (try dsimp only at hSw_); go_simp; (try with_reducible rfl)
                  try simp only [Act.put, List.setIfInBounds_toArray, List.set_cons_zero, List.set_cons_succ]
                  refine take_op 14 (some 79) (v := ?_) rfl rfl (by kernel_rfl) (by kernel_rfl) (by kernel_rfl) (fun _ _ _ h => h) (Or.inl ⟨by rfl, ?_⟩) (by assumption) ?_
                  rotate_left
                  · intro w_ hSw_; (try dsimp only at hSw_); go_simp; (try with_reducible rfl)
                  try simp only [Act.put, List.setIfInBounds_toArray, List.set_cons_zero, List.set_cons_succ]
                  refine take_op 15 (some 80) (v := ?_) rfl rfl (by kernel_rfl) (by kernel_rfl) (by kernel_rfl) (fun _ _ _ h => h) (Or.inl ⟨by rfl, ?_⟩) (by assumption) ?_
                  rotate_left
                  · intro w_ hSw_; (try dsimp only at hSw_); go_simp; (try with_reducible rfl)
                  try simp only [Act.put, List.setIfInBounds_toArray, List.set_cons_zero, List.set_cons_succ]
                  refine take_op 16 (some 81) (v := ?_) rfl rfl (by kernel_rfl) (by kernel_rfl) (by kernel_rfl) (fun _ _ _ h => h) (Or.inl ⟨by rfl, ?_⟩) (by assumption) ?_
                  rotate_left
                  · intro w_ hSw_; (try dsimp only at hSw_); go_simp; (try with_reducible rfl)
                  try simp only [Act.put, List.setIfInBounds_toArray, List.set_cons_zero, List.set_cons_succ]
                  refine take_op 17 (some 82) (v := ?_) rfl rfl (by kernel_rfl) (by kernel_rfl) (by kernel_rfl) (fun _ _ _ h => h) (Or.inl ⟨by rfl, ?_⟩) (by assumption) ?_
                  rotate_left
                  · intro w_ hSw_; (try dsimp only at hSw_); go_simp; (try with_reducible rfl)
                  try simp only [Act.put, List.setIfInBounds_toArray, List.set_cons_zero, List.set_cons_succ]
                  refine take_op 18 (some 83) (v := ?_) rfl rfl (by kernel_rfl) (by kernel_rfl) (by kernel_rfl) (fun _ _ _ h => h) (Or.inl ⟨by rfl, ?_⟩) (by assumption) ?_
                  rotate_left
                  · intro w_ hSw_; (try dsimp only at hSw_); go_simp; (try with_reducible rfl)
                  try simp only [Act.put, List.setIfInBounds_toArray, List.set_cons_zero, List.set_cons_succ]
                  refine take_op 19 (some 84) (v := ?_) rfl rfl (by kernel_rfl) (by kernel_rfl) (by kernel_rfl) (fun _ _ _ h => h) (Or.inl ⟨by rfl, ?_⟩) (by assumption) ?_
                  rotate_left
                  · intro w_ hSw_; (try dsimp only at hSw_); go_simp; (try with_reducible rfl)
                  try simp only [Act.put, List.setIfInBounds_toArray, List.set_cons_zero, List.set_cons_succ]
                  refine take_op 20 (some 85) (v := ?_) rfl rfl (by kernel_rfl) (by kernel_rfl) (by kernel_rfl) (fun _ _ _ h => h) (Or.inl ⟨by rfl, ?_⟩) (by assumption) ?_
                  rotate_left
                  · intro w_ hSw_; (try dsimp only at hSw_); go_simp; (try with_reducible rfl)
                  try simp only [Act.put, List.setIfInBounds_toArray, List.set_cons_zero, List.set_cons_succ]
                  refine take_op 21 (some 86) (v := ?_) rfl rfl (by kernel_rfl) (by kernel_rfl) (by kernel_rfl) (fun _ _ _ h => h) (Or.inl ⟨by rfl, ?_⟩) (by assumption) ?_
                  rotate_left
                  · intro w_ hSw_; (try dsimp only at hSw_); go_simp; (try with_reducible rfl)
                  try simp only [Act.put, List.setIfInBounds_toArray, List.set_cons_zero, List.set_cons_succ]
                  refine take_op 22 (some 87) (v := ?_) rfl rfl (by kernel_rfl) (by kernel_rfl) (by kernel_rfl) (fun _ _ _ h => h) (Or.inl ⟨by rfl, ?_⟩) (by assumption) ?_
                  rotate_left
                  · intro w_ hSw_; (try dsimp only at hSw_); go_simp; (try with_reducible rfl)
                  try simp only [Act.put, List.setIfInBounds_toArray, List.set_cons_zero, List.set_cons_succ]
                  first | rw [hf1.out] | skip
                  refine take_op 23 (some 88) (v := ?_) rfl rfl (by kernel_rfl) (by kernel_rfl) (by kernel_rfl) (fun _ _ _ h => h) (Or.inl ⟨by rfl, ?_⟩) (by assumption) ?_
                  rotate_left
                  · intro w_ hSw_; (try dsimp only at hSw_); go_simp; (try with_reducible rfl)
                  try simp only [Act.put, List.setIfInBounds_toArray, List.set_cons_zero, List.set_cons_succ]
                  refine wpAnyH_done (by kernel_rfl) ?_ _
                  clear hHeld
                  have hD : Below wi.heap.size wi wi.drew.drew := (Below.refl _ wi).drew.drew
                  have HBI9 := Lib.hid (HBI.out.trans (hD.mono HBI.out.size))
                  have X09 := Lib.hid ((hD.cell (p := ⟨bx, 0, none⟩) HBX.out).trans X0.out)
                  have X19 := Lib.hid ((hD.cell (p := ⟨bx, 1, none⟩) HBX.out).trans X1.out)
                  have X29 := Lib.hid ((hD.cell (p := ⟨bx, 2, none⟩) HBX.out).trans X2.out)
                  have HBX9 : Hid (bx < wi.drew.drew.heap.size) := Lib.hid (Nat.lt_of_lt_of_le HBX.out hD.size)
                  have HOWI9 := Lib.hid (owns_below HOWI.out hD (Nat.le_refl _))
                  have SRC19 := Lib.hid (SRC1.out.below hD)
                  have Y29 := (hD.cell (p := ⟨g, k * 3 + 2, none⟩) HGL.out).trans Y2
                  have HGL9 : Hid (g < wi.drew.drew.heap.size) := Lib.hid (Nat.lt_of_lt_of_le HGL.out hD.size)
                  clear hD HBI X0 X1 X2 HBX HOWI SRC1 HBW HGL Y0 Y1 Y2 SRC2
                  revert HBI9 X09 X19 X29 HBX9 HOWI9 SRC19 Y29 HGL9
                  generalize wi.drew.drew = wi
                  intro HBI X0 X1 X2 HBX HOWI SRC1 Y2 HGL
                  have hset := HSORT.out.set (x := (x1, x2, x3)) HY.out rfl (y3 + x3)
                  have hsum1 : addL (fun _ => none) (all.take (i + 1)) = if in64 (y3 + x3) then some (updK M (x1, x2) (y3 + x3)) else none := by
                    rw [HST.out, addL_snoc HSUM.out, show M (keyE (x1, x2, x3)) = some y3 from hset.1]; rfl
                  have HSUM1 := Lib.hid hsum1
                  have HSET := Lib.hid hset.2
                  have hy3 : in64 y3 := addL_in HSUM.out (fun _ _ h => by cases h) _ _ hset.1
                  have HY3 := Lib.hid hy3
                  have X2v := X2.out
                  clear hset hsum1 hy3
                  by_cases hin : in64 (y3 + x3)
                  · have HSUM9 : Hid (addL (fun _ => none) (all.take (i + 1)) = some (updK M (x1, x2) (y3 + x3))) := Lib.hid (by rw [HSUM1.out, if_pos hin])
                    have HWS : Hid (IntKind.i64.wrap (y3 + x3) = y3 + x3) := Lib.hid (by rw [IntKind.wrap_i64]; unfold in64 at hin; omega)
                    unfold in64 at hin
                    by_cases p1 : 0 < x3
                    · skip
                      have q1 : ¬ 9223372036854775807 - x3 < y3 := by omega
                      have q2 : ¬ x3 < 0 := by omega
                      have q3 : IntKind.i64.wrap (9223372036854775807 - x3) = 9223372036854775807 - x3 := by have := HX3.out; unfold in64 at this; rw [IntKind.wrap_i64]; omega
                      clear hin
                      go_wp2_with fail
                      refine wp_region_held_drew (S := fun _ => True) (by kernel_rfl) trivial (fun hHeld => ?_)
                      refine take_op 0 (some 128) (v := ?_) rfl rfl (by kernel_rfl) (by kernel_rfl) (by kernel_rfl) (fun _ _ _ h => h) (Or.inl ⟨by rfl, ?_⟩) (by assumption) ?_
                      rotate_left
                      · intro w_ hSw_; (try dsimp only at hSw_); go_simp; (try with_reducible rfl)
                      try simp only [Act.put, List.setIfInBounds_toArray, List.set_cons_zero, List.set_cons_succ]
                      refine take_op 1 (some 129) (v := ?_) rfl rfl (by kernel_rfl) (by kernel_rfl) (by kernel_rfl) (fun _ _ _ h => h) (Or.inl ⟨by rfl, ?_⟩) (by assumption) ?_
                      rotate_left
                      · intro w_ hSw_; (try dsimp only at hSw_); go_simp; (try with_reducible rfl)
                      try simp only [Act.put, List.setIfInBounds_toArray, List.set_cons_zero, List.set_cons_succ]
                      refine take_op 2 (some 130) (v := ?_) rfl rfl (by kernel_rfl) (by kernel_rfl) (by kernel_rfl) (fun _ _ _ h => h) (Or.inl ⟨by rfl, ?_⟩) (by assumption) ?_
                      rotate_left
                      · intro w_ hSw_; (try dsimp only at hSw_); go_simp; (try with_reducible rfl)
                      try simp only [Act.put, List.setIfInBounds_toArray, List.set_cons_zero, List.set_cons_succ]
                      refine take_op 3 (some 131) (v := ?_) rfl rfl (by kernel_rfl) (by kernel_rfl) (by kernel_rfl) (fun _ _ _ h => h) (Or.inl ⟨by rfl, ?_⟩) (by assumption) ?_
                      rotate_left
                      · intro w_ hSw_; (try dsimp only at hSw_); go_simp; (try with_reducible rfl)
                      try simp only [Act.put, List.setIfInBounds_toArray, List.set_cons_zero, List.set_cons_succ]
                      refine take_op 5 (some 133) (v := ?_) rfl rfl (by kernel_rfl) (by kernel_rfl) (by kernel_rfl) (fun _ _ _ h => h) (Or.inl ⟨by rfl, ?_⟩) (by assumption) ?_
                      rotate_left
                      · intro w_ hSw_; (try dsimp only at hSw_); go_simp; (try with_reducible rfl)
                      try simp only [Act.put, List.setIfInBounds_toArray, List.set_cons_zero, List.set_cons_succ]
                      refine wpAnyH_tab (fun w' => Below wi.heap.size wi w') [4, 6] 4 [(4, 132, .val (.int .i64 y3)), (6, 134, .val (.int .i64 x3))] rfl rfl (by kernel_rfl) (fun _ _ => trivial) (fun w1 w2 h hb => h.trans (hb.mono h.size)) (Below.refl _ _).drew ?_ ?_
                      · skip
                        refine InvSteps.cons rfl (fun xs_ wv hSv hr_ A_ hA_ K_ hK_ => ?_) ?_
                        · skip
                          simp only [putAll, List.foldl, List.map, Act.put, List.setIfInBounds_toArray, List.set_cons_zero, List.set_cons_succ] at hA_
                          subst hA_
                          have c2 := (hSv.cell (p := ⟨g, k * 3 + 2, none⟩) HGL.out).trans Y2
                          go_simp
                          exact hK_.out _ _ _ rfl rfl (Below.refl _ _)
                        refine InvSteps.cons rfl (fun xs_ wv hSv hr_ A_ hA_ K_ hK_ => ?_) ?_
                        · skip
                          simp only [putAll, List.foldl, List.map, Act.put, List.setIfInBounds_toArray, List.set_cons_zero, List.set_cons_succ] at hA_
                          subst hA_
                          have c2 := (hSv.cell (p := ⟨bx, 2, none⟩) HBX.out).trans X2.out
                          go_simp
                          exact hK_.out _ _ _ rfl rfl (Below.refl _ _)
                        exact InvSteps.nil
                      intro xs_ wv hSv hr_ A_ hA_
                      have e4 : xs_ 4 = _ := hr_ 4
                      have e6 : xs_ 6 = _ := hr_ 6
                      simp only [e4, e6, putAll, List.foldl, List.map, Act.put, List.setIfInBounds_toArray, List.set_cons_zero, List.set_cons_succ] at hA_
                      subst hA_
                      clear hr_ e4 e6
                      have HOV := Lib.hid (owns_below HOWI.out hSv (Nat.le_refl _))
                      have c2v := (hSv.cell (p := ⟨g, k * 3 + 2, none⟩) HGL.out).trans Y2
                      have hfz : wv.frozen? ⟨g, k * 3 + 2, none⟩ = false := by
                        rcases own_ad HOV.out with ⟨h, _⟩ | ⟨g', h, _, _, _, _, h9⟩
                        · omega
                        · injection h with h
                          injection h with h
                          rw [h]; exact h9 _
                      refine take_op 7 (some 135) (v := ?_) rfl rfl (by kernel_rfl) (by kernel_rfl) (by kernel_rfl) (fun _ _ _ h => h) (Or.inl ⟨by rfl, ?_⟩) (by assumption) ?_
                      rotate_left
                      · intro w_ hSw_; (try dsimp only at hSw_); go_simp; (try with_reducible rfl)
                      try simp only [Act.put, List.setIfInBounds_toArray, List.set_cons_zero, List.set_cons_succ]
                      first | rw [HWS.out] | skip
                      refine take_op 8 (some 136) (v := ?_) rfl rfl (by kernel_rfl) (by kernel_rfl) (by kernel_rfl) (fun _ _ _ h => h) (Or.inl ⟨by rfl, ?_⟩) (by assumption) ?_
                      rotate_left
                      · intro w_ hSw_; (try dsimp only at hSw_); go_simp; (try with_reducible rfl)
                      try simp only [Act.put, List.setIfInBounds_toArray, List.set_cons_zero, List.set_cons_succ]
                      refine take_op 9 (some 137) (v := ?_) rfl rfl (by kernel_rfl) (by kernel_rfl) (by kernel_rfl) (fun _ _ _ h => h) (Or.inl ⟨by rfl, ?_⟩) (by assumption) ?_
                      rotate_left
                      · intro w_ hSw_; (try dsimp only at hSw_); go_simp; (try with_reducible rfl)
                      try simp only [Act.put, List.setIfInBounds_toArray, List.set_cons_zero, List.set_cons_succ]
                      refine go_op 10 rfl (by kernel_rfl) (fun K_ hK_ => ?_)
                      go_simp
                      have hs9 := rown_set HOV.out k (x1, x2, y3 + x3) (x1, x2, y3) HY.out rfl rfl
                      have hb1 := HBI.out.trans (hSv.mono HBI.out.size)
                      have HO9 := Lib.hid hs9.1
                      have HB9 := Lib.hid (hb1.trans (hs9.2.below hb1.size (fun q hq e => by have := HGW.out; omega)))
                      have HL9 : Hid (m = (out.set k (x1, x2, y3 + x3)).length) := Lib.hid (by rw [List.length_set]; exact HMO.out)
                      refine hK_.out _ _ trivial (fun hHeld_ => ?_)
                      clear hs9 hb1 c2v hfz hSv HOV
                      revert HO9 HB9
                      generalize wv.setCell _ _ = wz
                      intro HO9 HB9
                      refine wpAnyH_done (by kernel_rfl) ?_ _
                      clear hHeld hHeld_
                      go_wp2_with fail
                      go_roundw
                      case rel => exact ⟨i + 1, _, _, _, by omega, by go_num, rfl, rfl, rfl, HSUM9.out, HSET.out, (by rw [← HL9.out]; omega), (by rw [← HL9.out]; exact HO9.out), HB9.out⟩
                      case measure => simp [intOf]; omega
                    · by_cases p2 : x3 < 0
                      · skip
                        have q1 : ¬ y3 < -9223372036854775808 - x3 := by omega
                        have q3 : IntKind.i64.wrap (-9223372036854775808 - x3) = -9223372036854775808 - x3 := by have := HX3.out; unfold in64 at this; rw [IntKind.wrap_i64]; omega
                        clear hin
                        go_wp2_with fail
                        refine wp_region_held_drew (S := fun _ => True) (by kernel_rfl) trivial (fun hHeld => ?_)
                        refine take_op 0 (some 128) (v := ?_) rfl rfl (by kernel_rfl) (by kernel_rfl) (by kernel_rfl) (fun _ _ _ h => h) (Or.inl ⟨by rfl, ?_⟩) (by assumption) ?_
                        rotate_left
                        · intro w_ hSw_; (try dsimp only at hSw_); go_simp; (try with_reducible rfl)
                        try simp only [Act.put, List.setIfInBounds_toArray, List.set_cons_zero, List.set_cons_succ]
                        refine take_op 1 (some 129) (v := ?_) rfl rfl (by kernel_rfl) (by kernel_rfl) (by kernel_rfl) (fun _ _ _ h => h) (Or.inl ⟨by rfl, ?_⟩) (by assumption) ?_
                        rotate_left
                        · intro w_ hSw_; (try dsimp only at hSw_); go_simp; (try with_reducible rfl)
                        try simp only [Act.put, List.setIfInBounds_toArray, List.set_cons_zero, List.set_cons_succ]
                        refine take_op 2 (some 130) (v := ?_) rfl rfl (by kernel_rfl) (by kernel_rfl) (by kernel_rfl) (fun _ _ _ h => h) (Or.inl ⟨by rfl, ?_⟩) (by assumption) ?_
                        rotate_left
                        · intro w_ hSw_; (try dsimp only at hSw_); go_simp; (try with_reducible rfl)
                        try simp only [Act.put, List.setIfInBounds_toArray, List.set_cons_zero, List.set_cons_succ]
                        refine take_op 3 (some 131) (v := ?_) rfl rfl (by kernel_rfl) (by kernel_rfl) (by kernel_rfl) (fun _ _ _ h => h) (Or.inl ⟨by rfl, ?_⟩) (by assumption) ?_
                        rotate_left
                        · intro w_ hSw_; (try dsimp only at hSw_); go_simp; (try with_reducible rfl)
                        try simp only [Act.put, List.setIfInBounds_toArray, List.set_cons_zero, List.set_cons_succ]
                        refine take_op 5 (some 133) (v := ?_) rfl rfl (by kernel_rfl) (by kernel_rfl) (by kernel_rfl) (fun _ _ _ h => h) (Or.inl ⟨by rfl, ?_⟩) (by assumption) ?_
                        rotate_left
                        · intro w_ hSw_; (try dsimp only at hSw_); go_simp; (try with_reducible rfl)
                        try simp only [Act.put, List.setIfInBounds_toArray, List.set_cons_zero, List.set_cons_succ]
                        refine wpAnyH_tab (fun w' => Below wi.heap.size wi w') [4, 6] 4 [(4, 132, .val (.int .i64 y3)), (6, 134, .val (.int .i64 x3))] rfl rfl (by kernel_rfl) (fun _ _ => trivial) (fun w1 w2 h hb => h.trans (hb.mono h.size)) (Below.refl _ _).drew ?_ ?_
                        · skip
                          refine InvSteps.cons rfl (fun xs_ wv hSv hr_ A_ hA_ K_ hK_ => ?_) ?_
                          · skip
                            simp only [putAll, List.foldl, List.map, Act.put, List.setIfInBounds_toArray, List.set_cons_zero, List.set_cons_succ] at hA_
                            subst hA_
                            have c2 := (hSv.cell (p := ⟨g, k * 3 + 2, none⟩) HGL.out).trans Y2
                            go_simp
                            exact hK_.out _ _ _ rfl rfl (Below.refl _ _)
                          refine InvSteps.cons rfl (fun xs_ wv hSv hr_ A_ hA_ K_ hK_ => ?_) ?_
                          · skip
                            simp only [putAll, List.foldl, List.map, Act.put, List.setIfInBounds_toArray, List.set_cons_zero, List.set_cons_succ] at hA_
                            subst hA_
                            have c2 := (hSv.cell (p := ⟨bx, 2, none⟩) HBX.out).trans X2.out
                            go_simp
                            exact hK_.out _ _ _ rfl rfl (Below.refl _ _)
                          exact InvSteps.nil
                        intro xs_ wv hSv hr_ A_ hA_
                        have e4 : xs_ 4 = _ := hr_ 4
                        have e6 : xs_ 6 = _ := hr_ 6
                        simp only [e4, e6, putAll, List.foldl, List.map, Act.put, List.setIfInBounds_toArray, List.set_cons_zero, List.set_cons_succ] at hA_
                        subst hA_
                        clear hr_ e4 e6
                        have HOV := Lib.hid (owns_below HOWI.out hSv (Nat.le_refl _))
                        have c2v := (hSv.cell (p := ⟨g, k * 3 + 2, none⟩) HGL.out).trans Y2
                        have hfz : wv.frozen? ⟨g, k * 3 + 2, none⟩ = false := by
                          rcases own_ad HOV.out with ⟨h, _⟩ | ⟨g', h, _, _, _, _, h9⟩
                          · omega
                          · injection h with h
                            injection h with h
                            rw [h]; exact h9 _
                        refine take_op 7 (some 135) (v := ?_) rfl rfl (by kernel_rfl) (by kernel_rfl) (by kernel_rfl) (fun _ _ _ h => h) (Or.inl ⟨by rfl, ?_⟩) (by assumption) ?_
                        rotate_left
                        · intro w_ hSw_; (try dsimp only at hSw_); go_simp; (try with_reducible rfl)
                        try simp only [Act.put, List.setIfInBounds_toArray, List.set_cons_zero, List.set_cons_succ]
                        first | rw [HWS.out] | skip
                        refine take_op 8 (some 136) (v := ?_) rfl rfl (by kernel_rfl) (by kernel_rfl) (by kernel_rfl) (fun _ _ _ h => h) (Or.inl ⟨by rfl, ?_⟩) (by assumption) ?_
                        rotate_left
                        · intro w_ hSw_; (try dsimp only at hSw_); go_simp; (try with_reducible rfl)
                        try simp only [Act.put, List.setIfInBounds_toArray, List.set_cons_zero, List.set_cons_succ]
                        refine take_op 9 (some 137) (v := ?_) rfl rfl (by kernel_rfl) (by kernel_rfl) (by kernel_rfl) (fun _ _ _ h => h) (Or.inl ⟨by rfl, ?_⟩) (by assumption) ?_
                        rotate_left
                        · intro w_ hSw_; (try dsimp only at hSw_); go_simp; (try with_reducible rfl)
                        try simp only [Act.put, List.setIfInBounds_toArray, List.set_cons_zero, List.set_cons_succ]
                        refine go_op 10 rfl (by kernel_rfl) (fun K_ hK_ => ?_)
                        go_simp
                        have hs9 := rown_set HOV.out k (x1, x2, y3 + x3) (x1, x2, y3) HY.out rfl rfl
                        have hb1 := HBI.out.trans (hSv.mono HBI.out.size)
                        have HO9 := Lib.hid hs9.1
                        have HB9 := Lib.hid (hb1.trans (hs9.2.below hb1.size (fun q hq e => by have := HGW.out; omega)))
                        have HL9 : Hid (m = (out.set k (x1, x2, y3 + x3)).length) := Lib.hid (by rw [List.length_set]; exact HMO.out)
                        refine hK_.out _ _ trivial (fun hHeld_ => ?_)
                        clear hs9 hb1 c2v hfz hSv HOV
                        revert HO9 HB9
                        generalize wv.setCell _ _ = wz
                        intro HO9 HB9
                        refine wpAnyH_done (by kernel_rfl) ?_ _
                        clear hHeld hHeld_
                        go_wp2_with fail
                        go_roundw
                        case rel => exact ⟨i + 1, _, _, _, by omega, by go_num, rfl, rfl, rfl, HSUM9.out, HSET.out, (by rw [← HL9.out]; omega), (by rw [← HL9.out]; exact HO9.out), HB9.out⟩
                        case measure => simp [intOf]; omega
                      · skip
                        clear hin
                        go_wp2_with fail
                        refine wp_region_held_drew (S := fun _ => True) (by kernel_rfl) trivial (fun hHeld => ?_)
                        refine take_op 0 (some 128) (v := ?_) rfl rfl (by kernel_rfl) (by kernel_rfl) (by kernel_rfl) (fun _ _ _ h => h) (Or.inl ⟨by rfl, ?_⟩) (by assumption) ?_
                        rotate_left
                        · intro w_ hSw_; (try dsimp only at hSw_); go_simp; (try with_reducible rfl)
                        try simp only [Act.put, List.setIfInBounds_toArray, List.set_cons_zero, List.set_cons_succ]
                        refine take_op 1 (some 129) (v := ?_) rfl rfl (by kernel_rfl) (by kernel_rfl) (by kernel_rfl) (fun _ _ _ h => h) (Or.inl ⟨by rfl, ?_⟩) (by assumption) ?_
                        rotate_left
                        · intro w_ hSw_; (try dsimp only at hSw_); go_simp; (try with_reducible rfl)
                        try simp only [Act.put, List.setIfInBounds_toArray, List.set_cons_zero, List.set_cons_succ]
                        refine take_op 2 (some 130) (v := ?_) rfl rfl (by kernel_rfl) (by kernel_rfl) (by kernel_rfl) (fun _ _ _ h => h) (Or.inl ⟨by rfl, ?_⟩) (by assumption) ?_
                        rotate_left
                        · intro w_ hSw_; (try dsimp only at hSw_); go_simp; (try with_reducible rfl)
                        try simp only [Act.put, List.setIfInBounds_toArray, List.set_cons_zero, List.set_cons_succ]
                        refine take_op 3 (some 131) (v := ?_) rfl rfl (by kernel_rfl) (by kernel_rfl) (by kernel_rfl) (fun _ _ _ h => h) (Or.inl ⟨by rfl, ?_⟩) (by assumption) ?_
                        rotate_left
                        · intro w_ hSw_; (try dsimp only at hSw_); go_simp; (try with_reducible rfl)
                        try simp only [Act.put, List.setIfInBounds_toArray, List.set_cons_zero, List.set_cons_succ]
                        refine take_op 5 (some 133) (v := ?_) rfl rfl (by kernel_rfl) (by kernel_rfl) (by kernel_rfl) (fun _ _ _ h => h) (Or.inl ⟨by rfl, ?_⟩) (by assumption) ?_
                        rotate_left
                        · intro w_ hSw_; (try dsimp only at hSw_); go_simp; (try with_reducible rfl)
                        try simp only [Act.put, List.setIfInBounds_toArray, List.set_cons_zero, List.set_cons_succ]
                        refine wpAnyH_tab (fun w' => Below wi.heap.size wi w') [4, 6] 4 [(4, 132, .val (.int .i64 y3)), (6, 134, .val (.int .i64 x3))] rfl rfl (by kernel_rfl) (fun _ _ => trivial) (fun w1 w2 h hb => h.trans (hb.mono h.size)) (Below.refl _ _).drew ?_ ?_
                        · skip
                          refine InvSteps.cons rfl (fun xs_ wv hSv hr_ A_ hA_ K_ hK_ => ?_) ?_
                          · skip
                            simp only [putAll, List.foldl, List.map, Act.put, List.setIfInBounds_toArray, List.set_cons_zero, List.set_cons_succ] at hA_
                            subst hA_
                            have c2 := (hSv.cell (p := ⟨g, k * 3 + 2, none⟩) HGL.out).trans Y2
                            go_simp
                            exact hK_.out _ _ _ rfl rfl (Below.refl _ _)
                          refine InvSteps.cons rfl (fun xs_ wv hSv hr_ A_ hA_ K_ hK_ => ?_) ?_
                          · skip
                            simp only [putAll, List.foldl, List.map, Act.put, List.setIfInBounds_toArray, List.set_cons_zero, List.set_cons_succ] at hA_
                            subst hA_
                            have c2 := (hSv.cell (p := ⟨bx, 2, none⟩) HBX.out).trans X2.out
                            go_simp
                            exact hK_.out _ _ _ rfl rfl (Below.refl _ _)
                          exact InvSteps.nil
                        intro xs_ wv hSv hr_ A_ hA_
                        have e4 : xs_ 4 = _ := hr_ 4
                        have e6 : xs_ 6 = _ := hr_ 6
                        simp only [e4, e6, putAll, List.foldl, List.map, Act.put, List.setIfInBounds_toArray, List.set_cons_zero, List.set_cons_succ] at hA_
                        subst hA_
                        clear hr_ e4 e6
                        have HOV := Lib.hid (owns_below HOWI.out hSv (Nat.le_refl _))
                        have c2v := (hSv.cell (p := ⟨g, k * 3 + 2, none⟩) HGL.out).trans Y2
                        have hfz : wv.frozen? ⟨g, k * 3 + 2, none⟩ = false := by
                          rcases own_ad HOV.out with ⟨h, _⟩ | ⟨g', h, _, _, _, _, h9⟩
                          · omega
                          · injection h with h
                            injection h with h
                            rw [h]; exact h9 _
                        refine take_op 7 (some 135) (v := ?_) rfl rfl (by kernel_rfl) (by kernel_rfl) (by kernel_rfl) (fun _ _ _ h => h) (Or.inl ⟨by rfl, ?_⟩) (by assumption) ?_
                        rotate_left
                        · intro w_ hSw_; (try dsimp only at hSw_); go_simp; (try with_reducible rfl)
                        try simp only [Act.put, List.setIfInBounds_toArray, List.set_cons_zero, List.set_cons_succ]
                        first | rw [HWS.out] | skip
                        refine take_op 8 (some 136) (v := ?_) rfl rfl (by kernel_rfl) (by kernel_rfl) (by kernel_rfl) (fun _ _ _ h => h) (Or.inl ⟨by rfl, ?_⟩) (by assumption) ?_
                        rotate_left
                        · intro w_ hSw_; (try dsimp only at hSw_); go_simp; (try with_reducible rfl)
                        try simp only [Act.put, List.setIfInBounds_toArray, List.set_cons_zero, List.set_cons_succ]
                        refine take_op 9 (some 137) (v := ?_) rfl rfl (by kernel_rfl) (by kernel_rfl) (by kernel_rfl) (fun _ _ _ h => h) (Or.inl ⟨by rfl, ?_⟩) (by assumption) ?_
                        rotate_left
                        · intro w_ hSw_; (try dsimp only at hSw_); go_simp; (try with_reducible rfl)
                        try simp only [Act.put, List.setIfInBounds_toArray, List.set_cons_zero, List.set_cons_succ]
                        refine go_op 10 rfl (by kernel_rfl) (fun K_ hK_ => ?_)
                        go_simp
                        have hs9 := rown_set HOV.out k (x1, x2, y3 + x3) (x1, x2, y3) HY.out rfl rfl
                        have hb1 := HBI.out.trans (hSv.mono HBI.out.size)
                        have HO9 := Lib.hid hs9.1
                        have HB9 := Lib.hid (hb1.trans (hs9.2.below hb1.size (fun q hq e => by have := HGW.out; omega)))
                        have HL9 : Hid (m = (out.set k (x1, x2, y3 + x3)).length) := Lib.hid (by rw [List.length_set]; exact HMO.out)
                        refine hK_.out _ _ trivial (fun hHeld_ => ?_)
                        clear hs9 hb1 c2v hfz hSv HOV
                        revert HO9 HB9
                        generalize wv.setCell _ _ = wz
                        intro HO9 HB9
                        refine wpAnyH_done (by kernel_rfl) ?_ _
                        clear hHeld hHeld_
                        go_wp2_with fail
                        go_roundw
                        case rel => exact ⟨i + 1, _, _, _, by omega, by go_num, rfl, rfl, rfl, HSUM9.out, HSET.out, (by rw [← HL9.out]; omega), (by rw [← HL9.out]; exact HO9.out), HB9.out⟩
                        case measure => simp [intOf]; omega
                  · have HNONE : Hid (addL (fun _ => none) all = none) := Lib.hid (by rw [← List.take_append_drop (i + 1) all]; exact addL_none (by rw [HSUM1.out, if_neg hin]))
                    have hy3 := HY3.out
                    unfold in64 at hin hy3
                    by_cases p1 : 0 < x3
                    · skip
                      have q1 : 9223372036854775807 - x3 < y3 := by omega
                      have q3 : IntKind.i64.wrap (9223372036854775807 - x3) = 9223372036854775807 - x3 := by have := HX3.out; unfold in64 at this; rw [IntKind.wrap_i64]; omega
                      clear hin hy3
                      go_wp2_with fail
                      go_ret2
                      unfold RefAddPost
                      first | rw [HNONE.out] | rw [← HALL.out, HNONE.out]
                      exact ⟨rfl, HB6.out.trans (HBI.out.mono HB6.out.size)⟩
                    · have p2 : x3 < 0 := by omega
                      have q1 : y3 < -9223372036854775808 - x3 := by omega
                      have q3 : IntKind.i64.wrap (-9223372036854775808 - x3) = -9223372036854775808 - x3 := by have := HX3.out; unfold in64 at this; rw [IntKind.wrap_i64]; omega
                      clear hin hy3
                      go_wp2_with fail
                      go_ret2
                      unfold RefAddPost
                      first | rw [HNONE.out] | rw [← HALL.out, HNONE.out]
                      exact ⟨rfl, HB6.out.trans (HBI.out.mono HB6.out.size)⟩
                · have hf1 : Hid (@bne Int instBEqOfDecidableEq y2 x2 = true) := Lib.hid (by simpa using hf)
                  have HGE : Hid (∀ y, out[k]? = some y → ltK (x1, x2) (keyE y)) := Lib.hid (fun y hy => by
                    rw [HY.out] at hy
                    obtain rfl := Option.some.inj hy
                    unfold ltK keyE; dsimp only; omega)
                  clear hc he hf
                  go_wp2_with fail
                  refine wp_region_held_drew (S := fun w' => w'.cell? ⟨g, k * 3, none⟩ = some (.int .i64 x1) ∧ w'.cell? ⟨g, k * 3 + 1, none⟩ = some (.int .i64 y2) ∧ w'.cell? ⟨bx, 0, none⟩ = some (.int .i64 x1) ∧ w'.cell? ⟨bx, 1, none⟩ = some (.int .i64 x2)) (by kernel_rfl) ⟨Y0, Y1, X0.out, X1.out⟩ (fun hHeld => ?_)
                  refine take_op 0 (some 29) (v := ?_) rfl rfl (by kernel_rfl) (by kernel_rfl) (by kernel_rfl) (fun _ _ _ h => h) (Or.inl ⟨by rfl, ?_⟩) (by assumption) ?_
                  rotate_left
                  · intro w_ hSw_; (try dsimp only at hSw_); go_simp; (try with_reducible rfl)
                  try simp only [Act.put, List.setIfInBounds_toArray, List.set_cons_zero, List.set_cons_succ]
                  refine take_op 1 (some 30) (v := ?_) rfl rfl (by kernel_rfl) (by kernel_rfl) (by kernel_rfl) (fun _ _ _ h => h) (Or.inl ⟨by rfl, ?_⟩) (by assumption) ?_
                  rotate_left
                  · intro w_ hSw_; (try dsimp only at hSw_); go_simp; (try with_reducible rfl)
                  try simp only [Act.put, List.setIfInBounds_toArray, List.set_cons_zero, List.set_cons_succ]
                  refine take_op 2 (some 31) (v := ?_) rfl rfl (by kernel_rfl) (by kernel_rfl) (by kernel_rfl) (fun _ _ _ h => h) (Or.inl ⟨by rfl, ?_⟩) (by assumption) ?_
                  rotate_left
                  · intro w_ hSw_; (try dsimp only at hSw_); go_simp; (try with_reducible rfl)
                  try simp only [Act.put, List.setIfInBounds_toArray, List.set_cons_zero, List.set_cons_succ]
                  refine take_op 3 (some 32) (v := ?_) rfl rfl (by kernel_rfl) (by kernel_rfl) (by kernel_rfl) (fun _ _ _ h => h) (Or.inl ⟨by rfl, ?_⟩) (by assumption) ?_
                  rotate_left
                  · intro w_ hSw_; (try dsimp only at hSw_); go_simp; (try with_reducible rfl)
                  try simp only [Act.put, List.setIfInBounds_toArray, List.set_cons_zero, List.set_cons_succ]
                  first | rw [ik.out] | rw [ik9.out] | skip
                  refine take_op 4 (some 33) (v := ?_) rfl rfl (by kernel_rfl) (by kernel_rfl) (by kernel_rfl) (fun _ _ _ h => h) (Or.inl ⟨by rfl, ?_⟩) (by assumption) ?_
                  rotate_left
                  · intro w_ hSw_; (try dsimp only at hSw_); go_simp; (try with_reducible rfl)
                  try simp only [Act.put, List.setIfInBounds_toArray, List.set_cons_zero, List.set_cons_succ]
                  refine take_op 5 (some 34) (v := ?_) rfl rfl (by kernel_rfl) (by kernel_rfl) (by kernel_rfl) (fun _ _ _ h => h) (Or.inl ⟨by rfl, ?_⟩) (by assumption) ?_
                  rotate_left
                  · intro w_ hSw_; (try dsimp only at hSw_); go_simp; (try with_reducible rfl)
                  try simp only [Act.put, List.setIfInBounds_toArray, List.set_cons_zero, List.set_cons_succ]
                  refine take_op 6 (some 35) (v := ?_) rfl rfl (by kernel_rfl) (by kernel_rfl) (by kernel_rfl) (fun _ _ _ h => h) (Or.inl ⟨by rfl, ?_⟩) (by assumption) ?_
                  rotate_left
                  · intro w_ hSw_; (try dsimp only at hSw_); go_simp; (try with_reducible rfl)
                  try simp only [Act.put, List.setIfInBounds_toArray, List.set_cons_zero, List.set_cons_succ]
                  refine take_op 7 (some 36) (v := ?_) rfl rfl (by kernel_rfl) (by kernel_rfl) (by kernel_rfl) (fun _ _ _ h => h) (Or.inl ⟨by rfl, ?_⟩) (by assumption) ?_
                  rotate_left
                  · intro w_ hSw_; (try dsimp only at hSw_); go_simp; (try with_reducible rfl)
                  try simp only [Act.put, List.setIfInBounds_toArray, List.set_cons_zero, List.set_cons_succ]
                  refine take_op 8 (some 37) (v := ?_) rfl rfl (by kernel_rfl) (by kernel_rfl) (by kernel_rfl) (fun _ _ _ h => h) (Or.inl ⟨by rfl, ?_⟩) (by assumption) ?_
                  rotate_left
                  · intro w_ hSw_; (try dsimp only at hSw_); go_simp; (try with_reducible rfl)
                  try simp only [Act.put, List.setIfInBounds_toArray, List.set_cons_zero, List.set_cons_succ]
                  refine take_op 9 (some 38) (v := ?_) rfl rfl (by kernel_rfl) (by kernel_rfl) (by kernel_rfl) (fun _ _ _ h => h) (Or.inl ⟨by rfl, ?_⟩) (by assumption) ?_
                  rotate_left
                  · intro w_ hSw_; (try dsimp only at hSw_); go_simp; (try with_reducible rfl)
                  try simp only [Act.put, List.setIfInBounds_toArray, List.set_cons_zero, List.set_cons_succ]
                  refine take_op 10 (some 39) (v := ?_) rfl rfl (by kernel_rfl) (by kernel_rfl) (by kernel_rfl) (fun _ _ _ h => h) (Or.inl ⟨by rfl, ?_⟩) (by assumption) ?_
                  rotate_left
                  · intro w_ hSw_; (try dsimp only at hSw_); go_simp; (try with_reducible rfl)
                  try simp only [Act.put, List.setIfInBounds_toArray, List.set_cons_zero, List.set_cons_succ]
                  refine take_op 11 (some 40) (v := ?_) rfl rfl (by kernel_rfl) (by kernel_rfl) (by kernel_rfl) (fun _ _ _ h => h) (Or.inl ⟨by rfl, ?_⟩) (by assumption) ?_
                  rotate_left
                  · intro w_ hSw_; (try dsimp only at hSw_); go_simp; (try with_reducible rfl)
                  try simp only [Act.put, List.setIfInBounds_toArray, List.set_cons_zero, List.set_cons_succ]
                  refine take_op 12 (some 41) (v := ?_) rfl rfl (by kernel_rfl) (by kernel_rfl) (by kernel_rfl) (fun _ _ _ h => h) (Or.inl ⟨by rfl, ?_⟩) (by assumption) ?_
                  rotate_left
                  · intro w_ hSw_; (try dsimp only at hSw_); go_simp; (try with_reducible rfl)
                  try simp only [Act.put, List.setIfInBounds_toArray, List.set_cons_zero, List.set_cons_succ]
                  first | rw [hc1.out] | skip
                  refine take_op 13 (some 42) (v := ?_) rfl rfl (by kernel_rfl) (by kernel_rfl) (by kernel_rfl) (fun _ _ _ h => h) (Or.inl ⟨by rfl, ?_⟩) (by assumption) ?_
                  rotate_left
                  · intro w_ hSw_; (try dsimp only at hSw_); go_simp; (try with_reducible rfl)
                  try simp only [Act.put, List.setIfInBounds_toArray, List.set_cons_zero, List.set_cons_succ]
                  refine take_op 14 (some 43) (v := ?_) rfl rfl (by kernel_rfl) (by kernel_rfl) (by kernel_rfl) (fun _ _ _ h => h) (Or.inl ⟨by rfl, ?_⟩) (by assumption) ?_
                  rotate_left
                  · intro w_ hSw_; (try dsimp only at hSw_); go_simp; (try with_reducible rfl)
                  try simp only [Act.put, List.setIfInBounds_toArray, List.set_cons_zero, List.set_cons_succ]
                  refine take_op 15 (some 44) (v := ?_) rfl rfl (by kernel_rfl) (by kernel_rfl) (by kernel_rfl) (fun _ _ _ h => h) (Or.inl ⟨by rfl, ?_⟩) (by assumption) ?_
                  rotate_left
                  · intro w_ hSw_; (try dsimp only at hSw_); go_simp; (try with_reducible rfl)
                  try simp only [Act.put, List.setIfInBounds_toArray, List.set_cons_zero, List.set_cons_succ]
                  refine take_op 16 (some 45) (v := ?_) rfl rfl (by kernel_rfl) (by kernel_rfl) (by kernel_rfl) (fun _ _ _ h => h) (Or.inl ⟨by rfl, ?_⟩) (by assumption) ?_
                  rotate_left
                  · intro w_ hSw_; (try dsimp only at hSw_); go_simp; (try with_reducible rfl)
                  try simp only [Act.put, List.setIfInBounds_toArray, List.set_cons_zero, List.set_cons_succ]
                  refine take_op 17 (some 46) (v := ?_) rfl rfl (by kernel_rfl) (by kernel_rfl) (by kernel_rfl) (fun _ _ _ h => h) (Or.inl ⟨by rfl, ?_⟩) (by assumption) ?_
                  rotate_left
                  · intro w_ hSw_; (try dsimp only at hSw_); go_simp; (try with_reducible rfl)
                  try simp only [Act.put, List.setIfInBounds_toArray, List.set_cons_zero, List.set_cons_succ]
                  refine take_op 18 (some 47) (v := ?_) rfl rfl (by kernel_rfl) (by kernel_rfl) (by kernel_rfl) (fun _ _ _ h => h) (Or.inl ⟨by rfl, ?_⟩) (by assumption) ?_
                  rotate_left
                  · intro w_ hSw_; (try dsimp only at hSw_); go_simp; (try with_reducible rfl)
                  try simp only [Act.put, List.setIfInBounds_toArray, List.set_cons_zero, List.set_cons_succ]
                  refine take_op 19 (some 48) (v := ?_) rfl rfl (by kernel_rfl) (by kernel_rfl) (by kernel_rfl) (fun _ _ _ h => h) (Or.inl ⟨by rfl, ?_⟩) (by assumption) ?_
                  rotate_left
                  · intro w_ hSw_; (try dsimp only at hSw_); go_simp; (try with_reducible rfl)
                  try simp only [Act.put, List.setIfInBounds_toArray, List.set_cons_zero, List.set_cons_succ]
                  refine take_op 20 (some 49) (v := ?_) rfl rfl (by kernel_rfl) (by kernel_rfl) (by kernel_rfl) (fun _ _ _ h => h) (Or.inl ⟨by rfl, ?_⟩) (by assumption) ?_
                  rotate_left
                  · intro w_ hSw_; (try dsimp only at hSw_); go_simp; (try with_reducible rfl)
                  try simp only [Act.put, List.setIfInBounds_toArray, List.set_cons_zero, List.set_cons_succ]
                  refine take_op 21 (some 50) (v := ?_) rfl rfl (by kernel_rfl) (by kernel_rfl) (by kernel_rfl) (fun _ _ _ h => h) (Or.inl ⟨by rfl, ?_⟩) (by assumption) ?_
                  rotate_left
                  · intro w_ hSw_; (try dsimp only at hSw_); go_simp; (try with_reducible rfl)
                  try simp only [Act.put, List.setIfInBounds_toArray, List.set_cons_zero, List.set_cons_succ]
                  first | rw [hd1.out] | skip
                  refine take_op 22 (some 51) (v := ?_) rfl rfl (by kernel_rfl) (by kernel_rfl) (by kernel_rfl) (fun _ _ _ h => h) (Or.inl ⟨by rfl, ?_⟩) (by assumption) ?_
                  rotate_left
                  · intro w_ hSw_; (try dsimp only at hSw_); go_simp; (try with_reducible rfl)
                  try simp only [Act.put, List.setIfInBounds_toArray, List.set_cons_zero, List.set_cons_succ]
                  refine take_op 23 (some 52) (v := ?_) rfl rfl (by kernel_rfl) (by kernel_rfl) (by kernel_rfl) (fun _ _ _ h => h) (Or.inl ⟨by rfl, ?_⟩) (by assumption) ?_
                  rotate_left
                  · intro w_ hSw_; (try dsimp only at hSw_); go_simp; (try with_reducible rfl)
                  try simp only [Act.put, List.setIfInBounds_toArray, List.set_cons_zero, List.set_cons_succ]
                  refine take_op 24 (some 53) (v := ?_) rfl rfl (by kernel_rfl) (by kernel_rfl) (by kernel_rfl) (fun _ _ _ h => h) (Or.inl ⟨by rfl, ?_⟩) (by assumption) ?_
                  rotate_left
                  · intro w_ hSw_; (try dsimp only at hSw_); go_simp; (try with_reducible rfl)
                  try simp only [Act.put, List.setIfInBounds_toArray, List.set_cons_zero, List.set_cons_succ]
                  refine take_op 25 (some 54) (v := ?_) rfl rfl (by kernel_rfl) (by kernel_rfl) (by kernel_rfl) (fun _ _ _ h => h) (Or.inl ⟨by rfl, ?_⟩) (by assumption) ?_
                  rotate_left
                  · intro w_ hSw_; (try dsimp only at hSw_); go_simp; (try with_reducible rfl)
                  try simp only [Act.put, List.setIfInBounds_toArray, List.set_cons_zero, List.set_cons_succ]
                  refine take_op 26 (some 55) (v := ?_) rfl rfl (by kernel_rfl) (by kernel_rfl) (by kernel_rfl) (fun _ _ _ h => h) (Or.inl ⟨by rfl, ?_⟩) (by assumption) ?_
                  rotate_left
                  · intro w_ hSw_; (try dsimp only at hSw_); go_simp; (try with_reducible rfl)
                  try simp only [Act.put, List.setIfInBounds_toArray, List.set_cons_zero, List.set_cons_succ]
                  refine take_op 27 (some 56) (v := ?_) rfl rfl (by kernel_rfl) (by kernel_rfl) (by kernel_rfl) (fun _ _ _ h => h) (Or.inl ⟨by rfl, ?_⟩) (by assumption) ?_
                  rotate_left
                  · intro w_ hSw_; (try dsimp only at hSw_); go_simp; (try with_reducible rfl)
                  try simp only [Act.put, List.setIfInBounds_toArray, List.set_cons_zero, List.set_cons_succ]
                  refine take_op 28 (some 57) (v := ?_) rfl rfl (by kernel_rfl) (by kernel_rfl) (by kernel_rfl) (fun _ _ _ h => h) (Or.inl ⟨by rfl, ?_⟩) (by assumption) ?_
                  rotate_left
                  · intro w_ hSw_; (try dsimp only at hSw_); go_simp; (try with_reducible rfl)
                  try simp only [Act.put, List.setIfInBounds_toArray, List.set_cons_zero, List.set_cons_succ]
                  refine take_op 29 (some 58) (v := ?_) rfl rfl (by kernel_rfl) (by kernel_rfl) (by kernel_rfl) (fun _ _ _ h => h) (Or.inl ⟨by rfl, ?_⟩) (by assumption) ?_
                  rotate_left
                  · intro w_ hSw_; (try dsimp only at hSw_); go_simp; (try with_reducible rfl)
                  try simp only [Act.put, List.setIfInBounds_toArray, List.set_cons_zero, List.set_cons_succ]
                  refine take_op 30 (some 59) (v := ?_) rfl rfl (by kernel_rfl) (by kernel_rfl) (by kernel_rfl) (fun _ _ _ h => h) (Or.inl ⟨by rfl, ?_⟩) (by assumption) ?_
                  rotate_left
                  · intro w_ hSw_; (try dsimp only at hSw_); go_simp; (try with_reducible rfl)
                  try simp only [Act.put, List.setIfInBounds_toArray, List.set_cons_zero, List.set_cons_succ]
                  first | rw [he1.out] | skip
                  refine take_op 31 (some 60) (v := ?_) rfl rfl (by kernel_rfl) (by kernel_rfl) (by kernel_rfl) (fun _ _ _ h => h) (Or.inl ⟨by rfl, ?_⟩) (by assumption) ?_
                  rotate_left
                  · intro w_ hSw_; (try dsimp only at hSw_); go_simp; (try with_reducible rfl)
                  try simp only [Act.put, List.setIfInBounds_toArray, List.set_cons_zero, List.set_cons_succ]
                  refine take_op 32 (some 61) (v := ?_) rfl rfl (by kernel_rfl) (by kernel_rfl) (by kernel_rfl) (fun _ _ _ h => h) (Or.inl ⟨by rfl, ?_⟩) (by assumption) ?_
                  rotate_left
                  · intro w_ hSw_; (try dsimp only at hSw_); go_simp; (try with_reducible rfl)
                  try simp only [Act.put, List.setIfInBounds_toArray, List.set_cons_zero, List.set_cons_succ]
                  refine take_op 33 (some 62) (v := ?_) rfl rfl (by kernel_rfl) (by kernel_rfl) (by kernel_rfl) (fun _ _ _ h => h) (Or.inl ⟨by rfl, ?_⟩) (by assumption) ?_
                  rotate_left
                  · intro w_ hSw_; (try dsimp only at hSw_); go_simp; (try with_reducible rfl)
                  try simp only [Act.put, List.setIfInBounds_toArray, List.set_cons_zero, List.set_cons_succ]
                  refine wpAnyH_done (by kernel_rfl) ?_ _
                  clear hHeld
                  go_wp2_with fail
                  refine wp_region_held_drew (S := fun w' => w'.cell? ⟨g, k * 3, none⟩ = some (.int .i64 x1) ∧ w'.cell? ⟨g, k * 3 + 1, none⟩ = some (.int .i64 y2) ∧ w'.cell? ⟨bx, 0, none⟩ = some (.int .i64 x1) ∧ w'.cell? ⟨bx, 1, none⟩ = some (.int .i64 x2)) (by kernel_rfl) ⟨Y0, Y1, X0.out, X1.out⟩ (fun hHeld => ?_)
                  refine take_op 0 (some 65) (v := ?_) rfl rfl (by kernel_rfl) (by kernel_rfl) (by kernel_rfl) (fun _ _ _ h => h) (Or.inl ⟨by rfl, ?_⟩) (by assumption) ?_
                  rotate_left
                  · intro w_ hSw_; (try dsimp only at hSw_); go_simp; (try with_reducible rfl)
                  try simp only [Act.put, List.setIfInBounds_toArray, List.set_cons_zero, List.set_cons_succ]
                  refine take_op 1 (some 66) (v := ?_) rfl rfl (by kernel_rfl) (by kernel_rfl) (by kernel_rfl) (fun _ _ _ h => h) (Or.inl ⟨by rfl, ?_⟩) (by assumption) ?_
                  rotate_left
                  · intro w_ hSw_; (try dsimp only at hSw_); go_simp; (try with_reducible rfl)
                  try simp only [Act.put, List.setIfInBounds_toArray, List.set_cons_zero, List.set_cons_succ]
                  refine take_op 2 (some 67) (v := ?_) rfl rfl (by kernel_rfl) (by kernel_rfl) (by kernel_rfl) (fun _ _ _ h => h) (Or.inl ⟨by rfl, ?_⟩) (by assumption) ?_
                  rotate_left
                  · intro w_ hSw_; (try dsimp only at hSw_); go_simp; (try with_reducible rfl)
                  try simp only [Act.put, List.setIfInBounds_toArray, List.set_cons_zero, List.set_cons_succ]
                  refine take_op 3 (some 68) (v := ?_) rfl rfl (by kernel_rfl) (by kernel_rfl) (by kernel_rfl) (fun _ _ _ h => h) (Or.inl ⟨by rfl, ?_⟩) (by assumption) ?_
                  rotate_left
                  · intro w_ hSw_; (try dsimp only at hSw_); go_simp; (try with_reducible rfl)
                  try simp only [Act.put, List.setIfInBounds_toArray, List.set_cons_zero, List.set_cons_succ]
                  first | rw [nk.out] | skip
                  refine take_op 4 (some 69) (v := ?_) rfl rfl (by kernel_rfl) (by kernel_rfl) (by kernel_rfl) (fun _ _ _ h => h) (Or.inl ⟨by rfl, ?_⟩) (by assumption) ?_
                  rotate_left
                  · intro w_ hSw_; (try dsimp only at hSw_); go_simp; (try with_reducible rfl)
                  try simp only [Act.put, List.setIfInBounds_toArray, List.set_cons_zero, List.set_cons_succ]
                  refine take_op 5 (some 70) (v := ?_) rfl rfl (by kernel_rfl) (by kernel_rfl) (by kernel_rfl) (fun _ _ _ h => h) (Or.inl ⟨by rfl, ?_⟩) (by assumption) ?_
                  rotate_left
                  · intro w_ hSw_; (try dsimp only at hSw_); go_simp; (try with_reducible rfl)
                  try simp only [Act.put, List.setIfInBounds_toArray, List.set_cons_zero, List.set_cons_succ]
                  refine take_op 6 (some 71) (v := ?_) rfl rfl (by kernel_rfl) (by kernel_rfl) (by kernel_rfl) (fun _ _ _ h => h) (Or.inl ⟨by rfl, ?_⟩) (by assumption) ?_
                  rotate_left
                  · intro w_ hSw_; (try dsimp only at hSw_); go_simp; (try with_reducible rfl)
                  try simp only [Act.put, List.setIfInBounds_toArray, List.set_cons_zero, List.set_cons_succ]
                  refine take_op 7 (some 72) (v := ?_) rfl rfl (by kernel_rfl) (by kernel_rfl) (by kernel_rfl) (fun _ _ _ h => h) (Or.inl ⟨by rfl, ?_⟩) (by assumption) ?_
                  rotate_left
                  · intro w_ hSw_; (try dsimp only at hSw_); go_simp; (try with_reducible rfl)
                  try simp only [Act.put, List.setIfInBounds_toArray, List.set_cons_zero, List.set_cons_succ]
                  refine take_op 8 (some 73) (v := ?_) rfl rfl (by kernel_rfl) (by kernel_rfl) (by kernel_rfl) (fun _ _ _ h => h) (Or.inl ⟨by rfl, ?_⟩) (by assumption) ?_
                  rotate_left
                  · intro w_ hSw_; (try dsimp only at hSw_); go_simp; (try with_reducible rfl)
                  try simp only [Act.put, List.setIfInBounds_toArray, List.set_cons_zero, List.set_cons_succ]
                  refine take_op 9 (some 74) (v := ?_) rfl rfl (by kernel_rfl) (by kernel_rfl) (by kernel_rfl) (fun _ _ _ h => h) (Or.inl ⟨by rfl, ?_⟩) (by assumption) ?_
                  rotate_left
                  · intro w_ hSw_; (try dsimp only at hSw_); go_simp; (try with_reducible rfl)
                  try simp only [Act.put, List.setIfInBounds_toArray, List.set_cons_zero, List.set_cons_succ]
                  refine take_op 10 (some 75) (v := ?_) rfl rfl (by kernel_rfl) (by kernel_rfl) (by kernel_rfl) (fun _ _ _ h => h) (Or.inl ⟨by rfl, ?_⟩) (by assumption) ?_
                  rotate_left
                  · intro w_ hSw_; (try dsimp only at hSw_); go_simp; (try with_reducible rfl)
                  try simp only [Act.put, List.setIfInBounds_toArray, List.set_cons_zero, List.set_cons_succ]
                  refine take_op 11 (some 76) (v := ?_) rfl rfl (by kernel_rfl) (by kernel_rfl) (by kernel_rfl) (fun _ _ _ h => h) (Or.inl ⟨by rfl, ?_⟩) (by assumption) ?_
                  rotate_left
                  · intro w_ hSw_; (try dsimp only at hSw_); go_simp; (try with_reducible rfl)
                  try simp only [Act.put, List.setIfInBounds_toArray, List.set_cons_zero, List.set_cons_succ]
                  refine take_op 12 (some 77) (v := ?_) rfl rfl (by kernel_rfl) (by kernel_rfl) (by kernel_rfl) (fun _ _ _ h => h) (Or.inl ⟨by rfl, ?_⟩) (by assumption) ?_
                  rotate_left
                  · intro w_ hSw_; (try dsimp only at hSw_); go_simp; (try with_reducible rfl)
                  try simp only [Act.put, List.setIfInBounds_toArray, List.set_cons_zero, List.set_cons_succ]
                  first | rw [hd2.out] | skip
                  refine take_op 13 (some 78) (v := ?_) rfl rfl (by kernel_rfl) (by kernel_rfl) (by kernel_rfl) (fun _ _ _ h => h) (Or.inl ⟨by rfl, ?_⟩) (by assumption) ?_
                  rotate_left
                  · intro w_ hSw_; (try dsimp only at hSw_); go_simp; (try with_reducible rfl)
                  try simp only [Act.put, List.setIfInBounds_toArray, List.set_cons_zero, List.set_cons_succ]
                  refine take_op 14 (some 79) (v := ?_) rfl rfl (by kernel_rfl) (by kernel_rfl) (by kernel_rfl) (fun _ _ _ h => h) (Or.inl ⟨by rfl, ?_⟩) (by assumption) ?_
                  rotate_left
                  · intro w_ hSw_; (try dsimp only at hSw_); go_simp; (try with_reducible rfl)
                  try simp only [Act.put, List.setIfInBounds_toArray, List.set_cons_zero, List.set_cons_succ]
                  refine take_op 15 (some 80) (v := ?_) rfl rfl (by kernel_rfl) (by kernel_rfl) (by kernel_rfl) (fun _ _ _ h => h) (Or.inl ⟨by rfl, ?_⟩) (by assumption) ?_
                  rotate_left
                  · intro w_ hSw_; (try dsimp only at hSw_); go_simp; (try with_reducible rfl)
                  try simp only [Act.put, List.setIfInBounds_toArray, List.set_cons_zero, List.set_cons_succ]
                  refine take_op 16 (some 81) (v := ?_) rfl rfl (by kernel_rfl) (by kernel_rfl) (by kernel_rfl) (fun _ _ _ h => h) (Or.inl ⟨by rfl, ?_⟩) (by assumption) ?_
                  rotate_left
                  · intro w_ hSw_; (try dsimp only at hSw_); go_simp; (try with_reducible rfl)
                  try simp only [Act.put, List.setIfInBounds_toArray, List.set_cons_zero, List.set_cons_succ]
                  refine take_op 17 (some 82) (v := ?_) rfl rfl (by kernel_rfl) (by kernel_rfl) (by kernel_rfl) (fun _ _ _ h => h) (Or.inl ⟨by rfl, ?_⟩) (by assumption) ?_
                  rotate_left
                  · intro w_ hSw_; (try dsimp only at hSw_); go_simp; (try with_reducible rfl)
                  try simp only [Act.put, List.setIfInBounds_toArray, List.set_cons_zero, List.set_cons_succ]
                  refine take_op 18 (some 83) (v := ?_) rfl rfl (by kernel_rfl) (by kernel_rfl) (by kernel_rfl) (fun _ _ _ h => h) (Or.inl ⟨by rfl, ?_⟩) (by assumption) ?_
                  rotate_left
                  · intro w_ hSw_; (try dsimp only at hSw_); go_simp; (try with_reducible rfl)
                  try simp only [Act.put, List.setIfInBounds_toArray, List.set_cons_zero, List.set_cons_succ]
                  refine take_op 19 (some 84) (v := ?_) rfl rfl (by kernel_rfl) (by kernel_rfl) (by kernel_rfl) (fun _ _ _ h => h) (Or.inl ⟨by rfl, ?_⟩) (by assumption) ?_
                  rotate_left
                  · intro w_ hSw_; (try dsimp only at hSw_); go_simp; (try with_reducible rfl)
                  try simp only [Act.put, List.setIfInBounds_toArray, List.set_cons_zero, List.set_cons_succ]
                  refine take_op 20 (some 85) (v := ?_) rfl rfl (by kernel_rfl) (by kernel_rfl) (by kernel_rfl) (fun _ _ _ h => h) (Or.inl ⟨by rfl, ?_⟩) (by assumption) ?_
                  rotate_left
                  · intro w_ hSw_; (try dsimp only at hSw_); go_simp; (try with_reducible rfl)
                  try simp only [Act.put, List.setIfInBounds_toArray, List.set_cons_zero, List.set_cons_succ]
                  refine take_op 21 (some 86) (v := ?_) rfl rfl (by kernel_rfl) (by kernel_rfl) (by kernel_rfl) (fun _ _ _ h => h) (Or.inl ⟨by rfl, ?_⟩) (by assumption) ?_
                  rotate_left
                  · intro w_ hSw_; (try dsimp only at hSw_); go_simp; (try with_reducible rfl)
                  try simp only [Act.put, List.setIfInBounds_toArray, List.set_cons_zero, List.set_cons_succ]
                  refine take_op 22 (some 87) (v := ?_) rfl rfl (by kernel_rfl) (by kernel_rfl) (by kernel_rfl) (fun _ _ _ h => h) (Or.inl ⟨by rfl, ?_⟩) (by assumption) ?_
                  rotate_left
                  · intro w_ hSw_; (try dsimp only at hSw_); go_simp; (try with_reducible rfl)
                  try simp only [Act.put, List.setIfInBounds_toArray, List.set_cons_zero, List.set_cons_succ]
                  first | rw [hf1.out] | skip
                  refine take_op 23 (some 88) (v := ?_) rfl rfl (by kernel_rfl) (by kernel_rfl) (by kernel_rfl) (fun _ _ _ h => h) (Or.inl ⟨by rfl, ?_⟩) (by assumption) ?_
                  rotate_left
                  · intro w_ hSw_; (try dsimp only at hSw_); go_simp; (try with_reducible rfl)
                  try simp only [Act.put, List.setIfInBounds_toArray, List.set_cons_zero, List.set_cons_succ]
                  refine wpAnyH_done (by kernel_rfl) ?_ _
                  clear hHeld
                  have hD : Below wi.heap.size wi wi.drew.drew := (Below.refl _ wi).drew.drew
                  have HBI9 := Lib.hid (HBI.out.trans (hD.mono HBI.out.size))
                  have X09 := Lib.hid ((hD.cell (p := ⟨bx, 0, none⟩) HBX.out).trans X0.out)
                  have X19 := Lib.hid ((hD.cell (p := ⟨bx, 1, none⟩) HBX.out).trans X1.out)
                  have X29 := Lib.hid ((hD.cell (p := ⟨bx, 2, none⟩) HBX.out).trans X2.out)
                  have HBX9 : Hid (bx < wi.drew.drew.heap.size) := Lib.hid (Nat.lt_of_lt_of_le HBX.out hD.size)
                  have HOWI9 := Lib.hid (owns_below HOWI.out hD (Nat.le_refl _))
                  have SRC19 := Lib.hid (SRC1.out.below hD)
                  have SRC29 := Lib.hid (SRC2.out.below hD)
                  clear hD HBI X0 X1 X2 HBX HOWI SRC1 HBW SRC2 Y0 Y1 Y2
                  revert HBI9 X09 X19 X29 HBX9 HOWI9 SRC19 SRC29
                  generalize wi.drew.drew = wi
                  intro HBI X0 X1 X2 HBX HOWI SRC1 SRC2
                  go_wp2_with fail
                  refine wp_region_held_drew (S := fun w' => Below wi.heap.size wi w') (by kernel_rfl) (Below.refl _ wi).drew (fun hHeld => ?_)
                  refine take_op 1 (some 90) (v := ?_) rfl rfl (by kernel_rfl) (by kernel_rfl) (by kernel_rfl) (fun _ _ _ h => h) (Or.inl ⟨by rfl, ?_⟩) (by assumption) ?_
                  rotate_left
                  · intro w_ hSw_; (try dsimp only at hSw_); go_simp; (try with_reducible rfl)
                  try simp only [Act.put, List.setIfInBounds_toArray, List.set_cons_zero, List.set_cons_succ]
                  refine take_op 2 (some 91) (v := ?_) rfl rfl (by kernel_rfl) (by kernel_rfl) (by kernel_rfl) (fun _ _ _ h => h) (Or.inl ⟨by rfl, ?_⟩) (by assumption) ?_
                  rotate_left
                  · intro w_ hSw_; (try dsimp only at hSw_); go_simp; (try with_reducible rfl)
                  try simp only [Act.put, List.setIfInBounds_toArray, List.set_cons_zero, List.set_cons_succ]
                  refine take_op 3 (some 92) (v := ?_) rfl rfl (by kernel_rfl) (by kernel_rfl) (by kernel_rfl) (fun _ _ _ h => h) (Or.inl ⟨by rfl, ?_⟩) (by assumption) ?_
                  rotate_left
                  · intro w_ hSw_; (try dsimp only at hSw_); go_simp; (try with_reducible rfl)
                  try simp only [Act.put, List.setIfInBounds_toArray, List.set_cons_zero, List.set_cons_succ]
                  refine take_op 5 (some 94) (v := .agg #[.int .i64 x1, .int .i64 x2, .int .i64 x3]) rfl rfl (by kernel_rfl) (by kernel_rfl) (by kernel_rfl) (fun _ _ _ h => h) (Or.inl ⟨by rfl, ?_⟩) (by assumption) ?_
                  · intro w_ hSw_
                    have c0 := (hSw_.cell (p := ⟨bx, 0, none⟩) HBX.out).trans X0.out
                    have c1 := (hSw_.cell (p := ⟨bx, 1, none⟩) HBX.out).trans X1.out
                    have c2 := (hSw_.cell (p := ⟨bx, 2, none⟩) HBX.out).trans X2.out
                    go_simp
                    try rfl
                  try simp only [Act.put, List.setIfInBounds_toArray, List.set_cons_zero, List.set_cons_succ]
                  refine take_op 8 (some 97) (v := ?_) rfl rfl (by kernel_rfl) (by kernel_rfl) (by kernel_rfl) (fun _ _ _ h => h) (Or.inl ⟨by rfl, ?_⟩) (by assumption) ?_
                  rotate_left
                  · intro w_ hSw_; (try dsimp only at hSw_); go_simp; (try with_reducible rfl)
                  try simp only [Act.put, List.setIfInBounds_toArray, List.set_cons_zero, List.set_cons_succ]
                  refine take_op 9 (some 98) (v := ?_) rfl rfl (by kernel_rfl) (by kernel_rfl) (by kernel_rfl) (fun _ _ _ h => h) (Or.inl ⟨by rfl, ?_⟩) (by assumption) ?_
                  rotate_left
                  · intro w_ hSw_; (try dsimp only at hSw_); go_simp; (try with_reducible rfl)
                  try simp only [Act.put, List.setIfInBounds_toArray, List.set_cons_zero, List.set_cons_succ]
                  refine take_op 10 (some 99) (v := ?_) rfl rfl (by kernel_rfl) (by kernel_rfl) (by kernel_rfl) (fun _ _ _ h => h) (Or.inl ⟨by rfl, ?_⟩) (by assumption) ?_
                  rotate_left
                  · intro w_ hSw_; (try dsimp only at hSw_); go_simp; (try with_reducible rfl)
                  try simp only [Act.put, List.setIfInBounds_toArray, List.set_cons_zero, List.set_cons_succ]
                  refine wpAnyH_tab (fun w' => Below wi.heap.size wi w') [0, 4, 6] 3 [(0, 89, .newr wi.heap.size #[] 59), (4, 93, .ownk wi.heap.size 59 3 k ((out.take k).flatMap encE)), (6, 95, .rowk 1 #[.int .i64 x1, .int .i64 x2, .int .i64 x3] 59)] rfl rfl (by kernel_rfl) (fun _ h => h) (fun w1 w2 h hb => h.trans (hb.mono h.size)) hHeld ?_ ?_
                  · skip
                    refine InvSteps.cons rfl (fun xs_ wv hSv hr_ A_ hA_ K_ hK_ => ?_) ?_
                    · skip
                      simp only [putAll, List.foldl, List.map, Act.put, List.setIfInBounds_toArray, List.set_cons_zero, List.set_cons_succ] at hA_
                      subst hA_
                      go_simp
                      exact hK_.out _ _ _ rfl ⟨_, rfl, hSv.size, Blk.new _ _ _⟩ ((Below.refl _ _).alloc (Nat.le_refl _) _)
                    refine InvSteps.cons rfl (fun xs_ wv hSv hr_ A_ hA_ K_ hK_ => ?_) ?_
                    · skip
                      obtain ⟨b0, e0, N0, B0⟩ := hr_ 0 (by kernel_rfl)
                      simp only [e0, putAll, List.foldl, List.map, Act.put, List.setIfInBounds_toArray, List.set_cons_zero, List.set_cons_succ] at hA_
                      subst hA_
                      refine step_appRowsFresh sl_rent rent_info rfl (by decide) encE_len encE_one (by decide) rfl rfl rfl b0 wi.heap.size N0 B0 (out.take k) (some ⟨g, 0, none⟩) k cap (by rw [List.length_take, ← HMO.out]; try omega) (SRC1.out.below hSv) (by have := HLE.out; omega) rfl rfl ?_
                      intro v' w' hown hb
                      exact hK_.out _ _ _ rfl hown hb
                    refine InvSteps.cons rfl (fun xs_ wv hSv hr_ A_ hA_ K_ hK_ => ?_) ?_
                    · skip
                      simp only [putAll, List.foldl, List.map, Act.put, List.setIfInBounds_toArray, List.set_cons_zero, List.set_cons_succ] at hA_
                      subst hA_
                      go_simp
                      exact hK_.out _ _ _ rfl ⟨_, rfl, Blk.new _ _ _⟩ ((Below.refl _ _).alloc (Nat.le_refl _) _)
                    exact InvSteps.nil
                  intro xs_ wv hSv hr_ A_ hA_
                  have O4 : wv.ownsRow wi.heap.size 59 3 (xs_ 4) k ((out.take k).flatMap encE) := hr_ 4
                  obtain ⟨b0, e0, N0, B0⟩ := hr_ 0
                  obtain ⟨b6, e6, B6⟩ := hr_ 6
                  simp only [e0, e6, putAll, List.foldl, List.map, Act.put, List.setIfInBounds_toArray, List.set_cons_zero, List.set_cons_succ] at hA_
                  subst hA_
                  clear hr_ e0 B0 N0 e6
                  generalize xs_ 4 = v4 at O4
                  refine go_op 7 rfl (by kernel_rfl) (fun K_ hK_ => ?_)
                  refine step_appRows sl_rent rent_info rfl (by decide) encE_len encE_one (by decide) rfl rfl rfl wi.heap.size v4 k (out.take k) [(x1, x2, x3)] (some ⟨b6, 0, none⟩) 1 1 rfl O4 (SrcAt.one B6 rfl) (by have := HLE.out; omega) hSv.size rfl rfl ?_
                  intro v7 w8 o7 g7 hv7
                  have hb8 := hSv.trans (below_grown g7 hSv.size (fun k hk => owns_block O4 k hk))
                  try simp only [Act.put, List.setIfInBounds_toArray, List.set_cons_zero, List.set_cons_succ]
                  refine hK_.out _ _ hb8 (fun hHeld_ => ?_)
                  refine go_op 11 rfl (by kernel_rfl) (fun K_ hK_ => ?_)
                  refine step_appRows sl_rent rent_info rfl (by decide) encE_len encE_one (by decide) rfl rfl rfl wi.heap.size v7 (k + 1) (out.take k ++ [(x1, x2, x3)]) (out.drop k) (some ⟨g, k * 3, none⟩) (m - k) (cap - k) (by rw [List.length_drop, ← HMO.out]; try omega) o7 (SRC2.out.below hb8) (by have := HLE.out; omega) hb8.size rfl rfl ?_
                  intro v8 w9 o8 g8 hv8
                  have hb9 := hb8.trans (below_grown g8 hb8.size (fun k hk => owns_block o7 k hk))
                  try simp only [Act.put, List.setIfInBounds_toArray, List.set_cons_zero, List.set_cons_succ]
                  refine hK_.out _ _ hb9 (fun hHeld_ => ?_)
                  refine take_op 12 (some 6) (v := ?_) rfl rfl (by kernel_rfl) (by kernel_rfl) (by kernel_rfl) (fun _ _ _ h => h) (Or.inl ⟨by rfl, ?_⟩) (by assumption) ?_
                  rotate_left
                  · intro w_ hSw_; (try dsimp only at hSw_); go_simp; (try with_reducible rfl)
                  try simp only [Act.put, List.setIfInBounds_toArray, List.set_cons_zero, List.set_cons_succ]
                  refine wpAnyH_done (by kernel_rfl) ?_ _
                  have hins := HSORT.out.ins (x := (x1, x2, x3)) (k := k) HLT.out HGE.out
                  have hlen : (out.take k ++ [(x1, x2, x3)] ++ out.drop k).length = k + 1 + (m - k) := by rw [List.length_append, List.length_append, List.length_take, List.length_drop, ← HMO.out, List.length_singleton]; try omega
                  have HB9 := Lib.hid hb9
                  have hO9 : w9.ownsRow w6.heap.size 59 3 v8 (out.take k ++ [(x1, x2, x3)] ++ out.drop k).length ((out.take k ++ [(x1, x2, x3)] ++ out.drop k).flatMap encE) := by rw [hlen]; exact owns_rebase o8 HBI.out.size
                  have HO9 := Lib.hid hO9
                  have hsum9 : addL (fun _ => none) (all.take (i + 1)) = some (updK M (x1, x2) x3) := by
                    rw [HST.out, addL_snoc HSUM.out]
                    have h0 : M (keyE (x1, x2, x3)) = none := hins.1
                    rw [h0]
                    show (if in64 (0 + x3) then some (updK M (x1, x2) (0 + x3)) else none) = _
                    rw [Int.zero_add, if_pos HX3.out]
                  have HSUM9 := Lib.hid hsum9
                  have HIN9 := Lib.hid hins.2
                  have HLEN9 := Lib.hid hlen
                  clear hHeld hHeld_ o7 o8 g7 g8 hv7 hv8 hb8 hb9 hO9 hsum9 hins hlen O4 B6 hSv
                  go_wp2_with fail
                  go_roundw
                  case rel => exact ⟨i + 1, _, _, v8, by omega, by go_num, rfl, rfl, rfl, HSUM9.out, HIN9.out, (by rw [HLEN9.out]; have := HLE.out; have := HMO.out; omega), HO9.out, HBI.out.trans (HB9.out.mono HBI.out.size)⟩
                  case measure => simp [intOf]; omega
            · have hd1 : Hid (@BEq.beq Int instBEqOfDecidableEq y1 x1 = false) := Lib.hid (by simpa using hd)
              have hd2 : Hid (@bne Int instBEqOfDecidableEq y1 x1 = true) := Lib.hid (by simpa using hd)
              have HGE : Hid (∀ y, out[k]? = some y → ltK (x1, x2) (keyE y)) := Lib.hid (fun y hy => by
                rw [HY.out] at hy
                obtain rfl := Option.some.inj hy
                unfold ltK keyE; dsimp only; omega)
              clear hc hd
              go_wp2_with fail
              refine wp_region_held_drew (S := fun w' => w'.cell? ⟨g, k * 3, none⟩ = some (.int .i64 y1) ∧ w'.cell? ⟨g, k * 3 + 1, none⟩ = some (.int .i64 y2) ∧ w'.cell? ⟨bx, 0, none⟩ = some (.int .i64 x1) ∧ w'.cell? ⟨bx, 1, none⟩ = some (.int .i64 x2)) (by kernel_rfl) ⟨Y0, Y1, X0.out, X1.out⟩ (fun hHeld => ?_)
              refine take_op 0 (some 29) (v := ?_) rfl rfl (by kernel_rfl) (by kernel_rfl) (by kernel_rfl) (fun _ _ _ h => h) (Or.inl ⟨by rfl, ?_⟩) (by assumption) ?_
              rotate_left
              · intro w_ hSw_; (try dsimp only at hSw_); go_simp; (try with_reducible rfl)
              try simp only [Act.put, List.setIfInBounds_toArray, List.set_cons_zero, List.set_cons_succ]
              refine take_op 1 (some 30) (v := ?_) rfl rfl (by kernel_rfl) (by kernel_rfl) (by kernel_rfl) (fun _ _ _ h => h) (Or.inl ⟨by rfl, ?_⟩) (by assumption) ?_
              rotate_left
              · intro w_ hSw_; (try dsimp only at hSw_); go_simp; (try with_reducible rfl)
              try simp only [Act.put, List.setIfInBounds_toArray, List.set_cons_zero, List.set_cons_succ]
              refine take_op 2 (some 31) (v := ?_) rfl rfl (by kernel_rfl) (by kernel_rfl) (by kernel_rfl) (fun _ _ _ h => h) (Or.inl ⟨by rfl, ?_⟩) (by assumption) ?_
              rotate_left
              · intro w_ hSw_; (try dsimp only at hSw_); go_simp; (try with_reducible rfl)
              try simp only [Act.put, List.setIfInBounds_toArray, List.set_cons_zero, List.set_cons_succ]
              refine take_op 3 (some 32) (v := ?_) rfl rfl (by kernel_rfl) (by kernel_rfl) (by kernel_rfl) (fun _ _ _ h => h) (Or.inl ⟨by rfl, ?_⟩) (by assumption) ?_
              rotate_left
              · intro w_ hSw_; (try dsimp only at hSw_); go_simp; (try with_reducible rfl)
              try simp only [Act.put, List.setIfInBounds_toArray, List.set_cons_zero, List.set_cons_succ]
              first | rw [ik.out] | rw [ik9.out] | skip
              refine take_op 4 (some 33) (v := ?_) rfl rfl (by kernel_rfl) (by kernel_rfl) (by kernel_rfl) (fun _ _ _ h => h) (Or.inl ⟨by rfl, ?_⟩) (by assumption) ?_
              rotate_left
              · intro w_ hSw_; (try dsimp only at hSw_); go_simp; (try with_reducible rfl)
              try simp only [Act.put, List.setIfInBounds_toArray, List.set_cons_zero, List.set_cons_succ]
              refine take_op 5 (some 34) (v := ?_) rfl rfl (by kernel_rfl) (by kernel_rfl) (by kernel_rfl) (fun _ _ _ h => h) (Or.inl ⟨by rfl, ?_⟩) (by assumption) ?_
              rotate_left
              · intro w_ hSw_; (try dsimp only at hSw_); go_simp; (try with_reducible rfl)
              try simp only [Act.put, List.setIfInBounds_toArray, List.set_cons_zero, List.set_cons_succ]
              refine take_op 6 (some 35) (v := ?_) rfl rfl (by kernel_rfl) (by kernel_rfl) (by kernel_rfl) (fun _ _ _ h => h) (Or.inl ⟨by rfl, ?_⟩) (by assumption) ?_
              rotate_left
              · intro w_ hSw_; (try dsimp only at hSw_); go_simp; (try with_reducible rfl)
              try simp only [Act.put, List.setIfInBounds_toArray, List.set_cons_zero, List.set_cons_succ]
              refine take_op 7 (some 36) (v := ?_) rfl rfl (by kernel_rfl) (by kernel_rfl) (by kernel_rfl) (fun _ _ _ h => h) (Or.inl ⟨by rfl, ?_⟩) (by assumption) ?_
              rotate_left
              · intro w_ hSw_; (try dsimp only at hSw_); go_simp; (try with_reducible rfl)
              try simp only [Act.put, List.setIfInBounds_toArray, List.set_cons_zero, List.set_cons_succ]
              refine take_op 8 (some 37) (v := ?_) rfl rfl (by kernel_rfl) (by kernel_rfl) (by kernel_rfl) (fun _ _ _ h => h) (Or.inl ⟨by rfl, ?_⟩) (by assumption) ?_
              rotate_left
              · intro w_ hSw_; (try dsimp only at hSw_); go_simp; (try with_reducible rfl)
              try simp only [Act.put, List.setIfInBounds_toArray, List.set_cons_zero, List.set_cons_succ]
              refine take_op 9 (some 38) (v := ?_) rfl rfl (by kernel_rfl) (by kernel_rfl) (by kernel_rfl) (fun _ _ _ h => h) (Or.inl ⟨by rfl, ?_⟩) (by assumption) ?_
              rotate_left
              · intro w_ hSw_; (try dsimp only at hSw_); go_simp; (try with_reducible rfl)
              try simp only [Act.put, List.setIfInBounds_toArray, List.set_cons_zero, List.set_cons_succ]
              refine take_op 10 (some 39) (v := ?_) rfl rfl (by kernel_rfl) (by kernel_rfl) (by kernel_rfl) (fun _ _ _ h => h) (Or.inl ⟨by rfl, ?_⟩) (by assumption) ?_
              rotate_left
              · intro w_ hSw_; (try dsimp only at hSw_); go_simp; (try with_reducible rfl)
              try simp only [Act.put, List.setIfInBounds_toArray, List.set_cons_zero, List.set_cons_succ]
              refine take_op 11 (some 40) (v := ?_) rfl rfl (by kernel_rfl) (by kernel_rfl) (by kernel_rfl) (fun _ _ _ h => h) (Or.inl ⟨by rfl, ?_⟩) (by assumption) ?_
              rotate_left
              · intro w_ hSw_; (try dsimp only at hSw_); go_simp; (try with_reducible rfl)
              try simp only [Act.put, List.setIfInBounds_toArray, List.set_cons_zero, List.set_cons_succ]
              refine take_op 12 (some 41) (v := ?_) rfl rfl (by kernel_rfl) (by kernel_rfl) (by kernel_rfl) (fun _ _ _ h => h) (Or.inl ⟨by rfl, ?_⟩) (by assumption) ?_
              rotate_left
              · intro w_ hSw_; (try dsimp only at hSw_); go_simp; (try with_reducible rfl)
              try simp only [Act.put, List.setIfInBounds_toArray, List.set_cons_zero, List.set_cons_succ]
              first | rw [hc1.out] | skip
              refine take_op 13 (some 42) (v := ?_) rfl rfl (by kernel_rfl) (by kernel_rfl) (by kernel_rfl) (fun _ _ _ h => h) (Or.inl ⟨by rfl, ?_⟩) (by assumption) ?_
              rotate_left
              · intro w_ hSw_; (try dsimp only at hSw_); go_simp; (try with_reducible rfl)
              try simp only [Act.put, List.setIfInBounds_toArray, List.set_cons_zero, List.set_cons_succ]
              refine take_op 14 (some 43) (v := ?_) rfl rfl (by kernel_rfl) (by kernel_rfl) (by kernel_rfl) (fun _ _ _ h => h) (Or.inl ⟨by rfl, ?_⟩) (by assumption) ?_
              rotate_left
              · intro w_ hSw_; (try dsimp only at hSw_); go_simp; (try with_reducible rfl)
              try simp only [Act.put, List.setIfInBounds_toArray, List.set_cons_zero, List.set_cons_succ]
              refine take_op 15 (some 44) (v := ?_) rfl rfl (by kernel_rfl) (by kernel_rfl) (by kernel_rfl) (fun _ _ _ h => h) (Or.inl ⟨by rfl, ?_⟩) (by assumption) ?_
              rotate_left
              · intro w_ hSw_; (try dsimp only at hSw_); go_simp; (try with_reducible rfl)
              try simp only [Act.put, List.setIfInBounds_toArray, List.set_cons_zero, List.set_cons_succ]
              refine take_op 16 (some 45) (v := ?_) rfl rfl (by kernel_rfl) (by kernel_rfl) (by kernel_rfl) (fun _ _ _ h => h) (Or.inl ⟨by rfl, ?_⟩) (by assumption) ?_
              rotate_left
              · intro w_ hSw_; (try dsimp only at hSw_); go_simp; (try with_reducible rfl)
              try simp only [Act.put, List.setIfInBounds_toArray, List.set_cons_zero, List.set_cons_succ]
              refine take_op 17 (some 46) (v := ?_) rfl rfl (by kernel_rfl) (by kernel_rfl) (by kernel_rfl) (fun _ _ _ h => h) (Or.inl ⟨by rfl, ?_⟩) (by assumption) ?_
              rotate_left
              · intro w_ hSw_; (try dsimp only at hSw_); go_simp; (try with_reducible rfl)
              try simp only [Act.put, List.setIfInBounds_toArray, List.set_cons_zero, List.set_cons_succ]
              refine take_op 18 (some 47) (v := ?_) rfl rfl (by kernel_rfl) (by kernel_rfl) (by kernel_rfl) (fun _ _ _ h => h) (Or.inl ⟨by rfl, ?_⟩) (by assumption) ?_
              rotate_left
              · intro w_ hSw_; (try dsimp only at hSw_); go_simp; (try with_reducible rfl)
              try simp only [Act.put, List.setIfInBounds_toArray, List.set_cons_zero, List.set_cons_succ]
              refine take_op 19 (some 48) (v := ?_) rfl rfl (by kernel_rfl) (by kernel_rfl) (by kernel_rfl) (fun _ _ _ h => h) (Or.inl ⟨by rfl, ?_⟩) (by assumption) ?_
              rotate_left
              · intro w_ hSw_; (try dsimp only at hSw_); go_simp; (try with_reducible rfl)
              try simp only [Act.put, List.setIfInBounds_toArray, List.set_cons_zero, List.set_cons_succ]
              refine take_op 20 (some 49) (v := ?_) rfl rfl (by kernel_rfl) (by kernel_rfl) (by kernel_rfl) (fun _ _ _ h => h) (Or.inl ⟨by rfl, ?_⟩) (by assumption) ?_
              rotate_left
              · intro w_ hSw_; (try dsimp only at hSw_); go_simp; (try with_reducible rfl)
              try simp only [Act.put, List.setIfInBounds_toArray, List.set_cons_zero, List.set_cons_succ]
              refine take_op 21 (some 50) (v := ?_) rfl rfl (by kernel_rfl) (by kernel_rfl) (by kernel_rfl) (fun _ _ _ h => h) (Or.inl ⟨by rfl, ?_⟩) (by assumption) ?_
              rotate_left
              · intro w_ hSw_; (try dsimp only at hSw_); go_simp; (try with_reducible rfl)
              try simp only [Act.put, List.setIfInBounds_toArray, List.set_cons_zero, List.set_cons_succ]
              first | rw [hd1.out] | skip
              refine take_op 22 (some 51) (v := ?_) rfl rfl (by kernel_rfl) (by kernel_rfl) (by kernel_rfl) (fun _ _ _ h => h) (Or.inl ⟨by rfl, ?_⟩) (by assumption) ?_
              rotate_left
              · intro w_ hSw_; (try dsimp only at hSw_); go_simp; (try with_reducible rfl)
              try simp only [Act.put, List.setIfInBounds_toArray, List.set_cons_zero, List.set_cons_succ]
              refine take_op 23 (some 52) rfl rfl (by kernel_rfl) (by kernel_rfl) (by kernel_rfl) (fun _ _ _ h => h) (Or.inr ⟨by rfl, rfl⟩) (by assumption) ?_
              try simp only [Act.put, List.setIfInBounds_toArray, List.set_cons_zero, List.set_cons_succ]
              refine take_op 24 (some 53) rfl rfl (by kernel_rfl) (by kernel_rfl) (by kernel_rfl) (fun _ _ _ h => h) (Or.inr ⟨by rfl, rfl⟩) (by assumption) ?_
              try simp only [Act.put, List.setIfInBounds_toArray, List.set_cons_zero, List.set_cons_succ]
              refine take_op 25 (some 54) rfl rfl (by kernel_rfl) (by kernel_rfl) (by kernel_rfl) (fun _ _ _ h => h) (Or.inr ⟨by rfl, rfl⟩) (by assumption) ?_
              try simp only [Act.put, List.setIfInBounds_toArray, List.set_cons_zero, List.set_cons_succ]
              refine take_op 26 (some 55) rfl rfl (by kernel_rfl) (by kernel_rfl) (by kernel_rfl) (fun _ _ _ h => h) (Or.inr ⟨by rfl, rfl⟩) (by assumption) ?_
              try simp only [Act.put, List.setIfInBounds_toArray, List.set_cons_zero, List.set_cons_succ]
              refine take_op 27 (some 56) rfl rfl (by kernel_rfl) (by kernel_rfl) (by kernel_rfl) (fun _ _ _ h => h) (Or.inr ⟨by rfl, rfl⟩) (by assumption) ?_
              try simp only [Act.put, List.setIfInBounds_toArray, List.set_cons_zero, List.set_cons_succ]
              refine take_op 28 (some 57) rfl rfl (by kernel_rfl) (by kernel_rfl) (by kernel_rfl) (fun _ _ _ h => h) (Or.inr ⟨by rfl, rfl⟩) (by assumption) ?_
              try simp only [Act.put, List.setIfInBounds_toArray, List.set_cons_zero, List.set_cons_succ]
              refine take_op 29 (some 58) rfl rfl (by kernel_rfl) (by kernel_rfl) (by kernel_rfl) (fun _ _ _ h => h) (Or.inr ⟨by rfl, rfl⟩) (by assumption) ?_
              try simp only [Act.put, List.setIfInBounds_toArray, List.set_cons_zero, List.set_cons_succ]
              refine take_op 30 (some 59) rfl rfl (by kernel_rfl) (by kernel_rfl) (by kernel_rfl) (fun _ _ _ h => h) (Or.inr ⟨by rfl, rfl⟩) (by assumption) ?_
              try simp only [Act.put, List.setIfInBounds_toArray, List.set_cons_zero, List.set_cons_succ]
              refine take_op 31 (some 60) (v := ?_) rfl rfl (by kernel_rfl) (by kernel_rfl) (by kernel_rfl) (fun _ _ _ h => h) (Or.inl ⟨by rfl, ?_⟩) (by assumption) ?_
              rotate_left
              · intro w_ hSw_; (try dsimp only at hSw_); go_simp; (try with_reducible rfl)
              try simp only [Act.put, List.setIfInBounds_toArray, List.set_cons_zero, List.set_cons_succ]
              refine take_op 32 (some 61) (v := ?_) rfl rfl (by kernel_rfl) (by kernel_rfl) (by kernel_rfl) (fun _ _ _ h => h) (Or.inl ⟨by rfl, ?_⟩) (by assumption) ?_
              rotate_left
              · intro w_ hSw_; (try dsimp only at hSw_); go_simp; (try with_reducible rfl)
              try simp only [Act.put, List.setIfInBounds_toArray, List.set_cons_zero, List.set_cons_succ]
              refine take_op 33 (some 62) (v := ?_) rfl rfl (by kernel_rfl) (by kernel_rfl) (by kernel_rfl) (fun _ _ _ h => h) (Or.inl ⟨by rfl, ?_⟩) (by assumption) ?_
              rotate_left
              · intro w_ hSw_; (try dsimp only at hSw_); go_simp; (try with_reducible rfl)
              try simp only [Act.put, List.setIfInBounds_toArray, List.set_cons_zero, List.set_cons_succ]
              refine wpAnyH_done (by kernel_rfl) ?_ _
              clear hHeld
              go_wp2_with fail
              refine wp_region_held_drew (S := fun w' => w'.cell? ⟨g, k * 3, none⟩ = some (.int .i64 y1) ∧ w'.cell? ⟨g, k * 3 + 1, none⟩ = some (.int .i64 y2) ∧ w'.cell? ⟨bx, 0, none⟩ = some (.int .i64 x1) ∧ w'.cell? ⟨bx, 1, none⟩ = some (.int .i64 x2)) (by kernel_rfl) ⟨Y0, Y1, X0.out, X1.out⟩ (fun hHeld => ?_)
              refine take_op 0 (some 65) (v := ?_) rfl rfl (by kernel_rfl) (by kernel_rfl) (by kernel_rfl) (fun _ _ _ h => h) (Or.inl ⟨by rfl, ?_⟩) (by assumption) ?_
              rotate_left
              · intro w_ hSw_; (try dsimp only at hSw_); go_simp; (try with_reducible rfl)
              try simp only [Act.put, List.setIfInBounds_toArray, List.set_cons_zero, List.set_cons_succ]
              refine take_op 1 (some 66) (v := ?_) rfl rfl (by kernel_rfl) (by kernel_rfl) (by kernel_rfl) (fun _ _ _ h => h) (Or.inl ⟨by rfl, ?_⟩) (by assumption) ?_
              rotate_left
              · intro w_ hSw_; (try dsimp only at hSw_); go_simp; (try with_reducible rfl)
              try simp only [Act.put, List.setIfInBounds_toArray, List.set_cons_zero, List.set_cons_succ]
              refine take_op 2 (some 67) (v := ?_) rfl rfl (by kernel_rfl) (by kernel_rfl) (by kernel_rfl) (fun _ _ _ h => h) (Or.inl ⟨by rfl, ?_⟩) (by assumption) ?_
              rotate_left
              · intro w_ hSw_; (try dsimp only at hSw_); go_simp; (try with_reducible rfl)
              try simp only [Act.put, List.setIfInBounds_toArray, List.set_cons_zero, List.set_cons_succ]
              refine take_op 3 (some 68) (v := ?_) rfl rfl (by kernel_rfl) (by kernel_rfl) (by kernel_rfl) (fun _ _ _ h => h) (Or.inl ⟨by rfl, ?_⟩) (by assumption) ?_
              rotate_left
              · intro w_ hSw_; (try dsimp only at hSw_); go_simp; (try with_reducible rfl)
              try simp only [Act.put, List.setIfInBounds_toArray, List.set_cons_zero, List.set_cons_succ]
              first | rw [nk.out] | skip
              refine take_op 4 (some 69) (v := ?_) rfl rfl (by kernel_rfl) (by kernel_rfl) (by kernel_rfl) (fun _ _ _ h => h) (Or.inl ⟨by rfl, ?_⟩) (by assumption) ?_
              rotate_left
              · intro w_ hSw_; (try dsimp only at hSw_); go_simp; (try with_reducible rfl)
              try simp only [Act.put, List.setIfInBounds_toArray, List.set_cons_zero, List.set_cons_succ]
              refine take_op 5 (some 70) (v := ?_) rfl rfl (by kernel_rfl) (by kernel_rfl) (by kernel_rfl) (fun _ _ _ h => h) (Or.inl ⟨by rfl, ?_⟩) (by assumption) ?_
              rotate_left
              · intro w_ hSw_; (try dsimp only at hSw_); go_simp; (try with_reducible rfl)
              try simp only [Act.put, List.setIfInBounds_toArray, List.set_cons_zero, List.set_cons_succ]
              refine take_op 6 (some 71) (v := ?_) rfl rfl (by kernel_rfl) (by kernel_rfl) (by kernel_rfl) (fun _ _ _ h => h) (Or.inl ⟨by rfl, ?_⟩) (by assumption) ?_
              rotate_left
              · intro w_ hSw_; (try dsimp only at hSw_); go_simp; (try with_reducible rfl)
              try simp only [Act.put, List.setIfInBounds_toArray, List.set_cons_zero, List.set_cons_succ]
              refine take_op 7 (some 72) (v := ?_) rfl rfl (by kernel_rfl) (by kernel_rfl) (by kernel_rfl) (fun _ _ _ h => h) (Or.inl ⟨by rfl, ?_⟩) (by assumption) ?_
              rotate_left
              · intro w_ hSw_; (try dsimp only at hSw_); go_simp; (try with_reducible rfl)
              try simp only [Act.put, List.setIfInBounds_toArray, List.set_cons_zero, List.set_cons_succ]
              refine take_op 8 (some 73) (v := ?_) rfl rfl (by kernel_rfl) (by kernel_rfl) (by kernel_rfl) (fun _ _ _ h => h) (Or.inl ⟨by rfl, ?_⟩) (by assumption) ?_
              rotate_left
              · intro w_ hSw_; (try dsimp only at hSw_); go_simp; (try with_reducible rfl)
              try simp only [Act.put, List.setIfInBounds_toArray, List.set_cons_zero, List.set_cons_succ]
              refine take_op 9 (some 74) (v := ?_) rfl rfl (by kernel_rfl) (by kernel_rfl) (by kernel_rfl) (fun _ _ _ h => h) (Or.inl ⟨by rfl, ?_⟩) (by assumption) ?_
              rotate_left
              · intro w_ hSw_; (try dsimp only at hSw_); go_simp; (try with_reducible rfl)
              try simp only [Act.put, List.setIfInBounds_toArray, List.set_cons_zero, List.set_cons_succ]
              refine take_op 10 (some 75) (v := ?_) rfl rfl (by kernel_rfl) (by kernel_rfl) (by kernel_rfl) (fun _ _ _ h => h) (Or.inl ⟨by rfl, ?_⟩) (by assumption) ?_
              rotate_left
              · intro w_ hSw_; (try dsimp only at hSw_); go_simp; (try with_reducible rfl)
              try simp only [Act.put, List.setIfInBounds_toArray, List.set_cons_zero, List.set_cons_succ]
              refine take_op 11 (some 76) (v := ?_) rfl rfl (by kernel_rfl) (by kernel_rfl) (by kernel_rfl) (fun _ _ _ h => h) (Or.inl ⟨by rfl, ?_⟩) (by assumption) ?_
              rotate_left
              · intro w_ hSw_; (try dsimp only at hSw_); go_simp; (try with_reducible rfl)
              try simp only [Act.put, List.setIfInBounds_toArray, List.set_cons_zero, List.set_cons_succ]
              refine take_op 12 (some 77) (v := ?_) rfl rfl (by kernel_rfl) (by kernel_rfl) (by kernel_rfl) (fun _ _ _ h => h) (Or.inl ⟨by rfl, ?_⟩) (by assumption) ?_
              rotate_left
              · intro w_ hSw_; (try dsimp only at hSw_); go_simp; (try with_reducible rfl)
              try simp only [Act.put, List.setIfInBounds_toArray, List.set_cons_zero, List.set_cons_succ]
              first | rw [hd2.out] | skip
              refine take_op 13 (some 78) (v := ?_) rfl rfl (by kernel_rfl) (by kernel_rfl) (by kernel_rfl) (fun _ _ _ h => h) (Or.inl ⟨by rfl, ?_⟩) (by assumption) ?_
              rotate_left
              · intro w_ hSw_; (try dsimp only at hSw_); go_simp; (try with_reducible rfl)
              try simp only [Act.put, List.setIfInBounds_toArray, List.set_cons_zero, List.set_cons_succ]
              refine take_op 14 (some 79) (v := ?_) rfl rfl (by kernel_rfl) (by kernel_rfl) (by kernel_rfl) (fun _ _ _ h => h) (Or.inl ⟨by rfl, ?_⟩) (by assumption) ?_
              rotate_left
              · intro w_ hSw_; (try dsimp only at hSw_); go_simp; (try with_reducible rfl)
              try simp only [Act.put, List.setIfInBounds_toArray, List.set_cons_zero, List.set_cons_succ]
              refine take_op 15 (some 80) rfl rfl (by kernel_rfl) (by kernel_rfl) (by kernel_rfl) (fun _ _ _ h => h) (Or.inr ⟨by rfl, rfl⟩) (by assumption) ?_
              try simp only [Act.put, List.setIfInBounds_toArray, List.set_cons_zero, List.set_cons_succ]
              refine take_op 16 (some 81) rfl rfl (by kernel_rfl) (by kernel_rfl) (by kernel_rfl) (fun _ _ _ h => h) (Or.inr ⟨by rfl, rfl⟩) (by assumption) ?_
              try simp only [Act.put, List.setIfInBounds_toArray, List.set_cons_zero, List.set_cons_succ]
              refine take_op 17 (some 82) rfl rfl (by kernel_rfl) (by kernel_rfl) (by kernel_rfl) (fun _ _ _ h => h) (Or.inr ⟨by rfl, rfl⟩) (by assumption) ?_
              try simp only [Act.put, List.setIfInBounds_toArray, List.set_cons_zero, List.set_cons_succ]
              refine take_op 18 (some 83) rfl rfl (by kernel_rfl) (by kernel_rfl) (by kernel_rfl) (fun _ _ _ h => h) (Or.inr ⟨by rfl, rfl⟩) (by assumption) ?_
              try simp only [Act.put, List.setIfInBounds_toArray, List.set_cons_zero, List.set_cons_succ]
              refine take_op 19 (some 84) rfl rfl (by kernel_rfl) (by kernel_rfl) (by kernel_rfl) (fun _ _ _ h => h) (Or.inr ⟨by rfl, rfl⟩) (by assumption) ?_
              try simp only [Act.put, List.setIfInBounds_toArray, List.set_cons_zero, List.set_cons_succ]
              refine take_op 20 (some 85) rfl rfl (by kernel_rfl) (by kernel_rfl) (by kernel_rfl) (fun _ _ _ h => h) (Or.inr ⟨by rfl, rfl⟩) (by assumption) ?_
              try simp only [Act.put, List.setIfInBounds_toArray, List.set_cons_zero, List.set_cons_succ]
              refine take_op 21 (some 86) rfl rfl (by kernel_rfl) (by kernel_rfl) (by kernel_rfl) (fun _ _ _ h => h) (Or.inr ⟨by rfl, rfl⟩) (by assumption) ?_
              try simp only [Act.put, List.setIfInBounds_toArray, List.set_cons_zero, List.set_cons_succ]
              refine take_op 22 (some 87) rfl rfl (by kernel_rfl) (by kernel_rfl) (by kernel_rfl) (fun _ _ _ h => h) (Or.inr ⟨by rfl, rfl⟩) (by assumption) ?_
              try simp only [Act.put, List.setIfInBounds_toArray, List.set_cons_zero, List.set_cons_succ]
              refine take_op 23 (some 88) (v := ?_) rfl rfl (by kernel_rfl) (by kernel_rfl) (by kernel_rfl) (fun _ _ _ h => h) (Or.inl ⟨by rfl, ?_⟩) (by assumption) ?_
              rotate_left
              · intro w_ hSw_; (try dsimp only at hSw_); go_simp; (try with_reducible rfl)
              try simp only [Act.put, List.setIfInBounds_toArray, List.set_cons_zero, List.set_cons_succ]
              refine wpAnyH_done (by kernel_rfl) ?_ _
              clear hHeld
              have hD : Below wi.heap.size wi wi.drew.drew := (Below.refl _ wi).drew.drew
              have HBI9 := Lib.hid (HBI.out.trans (hD.mono HBI.out.size))
              have X09 := Lib.hid ((hD.cell (p := ⟨bx, 0, none⟩) HBX.out).trans X0.out)
              have X19 := Lib.hid ((hD.cell (p := ⟨bx, 1, none⟩) HBX.out).trans X1.out)
              have X29 := Lib.hid ((hD.cell (p := ⟨bx, 2, none⟩) HBX.out).trans X2.out)
              have HBX9 : Hid (bx < wi.drew.drew.heap.size) := Lib.hid (Nat.lt_of_lt_of_le HBX.out hD.size)
              have HOWI9 := Lib.hid (owns_below HOWI.out hD (Nat.le_refl _))
              have SRC19 := Lib.hid (SRC1.out.below hD)
              have SRC29 := Lib.hid (SRC2.out.below hD)
              clear hD HBI X0 X1 X2 HBX HOWI SRC1 HBW SRC2 Y0 Y1 Y2
              revert HBI9 X09 X19 X29 HBX9 HOWI9 SRC19 SRC29
              generalize wi.drew.drew = wi
              intro HBI X0 X1 X2 HBX HOWI SRC1 SRC2
              go_wp2_with fail
              refine wp_region_held_drew (S := fun w' => Below wi.heap.size wi w') (by kernel_rfl) (Below.refl _ wi).drew (fun hHeld => ?_)
              refine take_op 1 (some 90) (v := ?_) rfl rfl (by kernel_rfl) (by kernel_rfl) (by kernel_rfl) (fun _ _ _ h => h) (Or.inl ⟨by rfl, ?_⟩) (by assumption) ?_
              rotate_left
              · intro w_ hSw_; (try dsimp only at hSw_); go_simp; (try with_reducible rfl)
              try simp only [Act.put, List.setIfInBounds_toArray, List.set_cons_zero, List.set_cons_succ]
              refine take_op 2 (some 91) (v := ?_) rfl rfl (by kernel_rfl) (by kernel_rfl) (by kernel_rfl) (fun _ _ _ h => h) (Or.inl ⟨by rfl, ?_⟩) (by assumption) ?_
              rotate_left
              · intro w_ hSw_; (try dsimp only at hSw_); go_simp; (try with_reducible rfl)
              try simp only [Act.put, List.setIfInBounds_toArray, List.set_cons_zero, List.set_cons_succ]
              refine take_op 3 (some 92) (v := ?_) rfl rfl (by kernel_rfl) (by kernel_rfl) (by kernel_rfl) (fun _ _ _ h => h) (Or.inl ⟨by rfl, ?_⟩) (by assumption) ?_
              rotate_left
              · intro w_ hSw_; (try dsimp only at hSw_); go_simp; (try with_reducible rfl)
              try simp only [Act.put, List.setIfInBounds_toArray, List.set_cons_zero, List.set_cons_succ]
              refine take_op 5 (some 94) (v := .agg #[.int .i64 x1, .int .i64 x2, .int .i64 x3]) rfl rfl (by kernel_rfl) (by kernel_rfl) (by kernel_rfl) (fun _ _ _ h => h) (Or.inl ⟨by rfl, ?_⟩) (by assumption) ?_
              · intro w_ hSw_
                have c0 := (hSw_.cell (p := ⟨bx, 0, none⟩) HBX.out).trans X0.out
                have c1 := (hSw_.cell (p := ⟨bx, 1, none⟩) HBX.out).trans X1.out
                have c2 := (hSw_.cell (p := ⟨bx, 2, none⟩) HBX.out).trans X2.out
                go_simp
                try rfl
              try simp only [Act.put, List.setIfInBounds_toArray, List.set_cons_zero, List.set_cons_succ]
              refine take_op 8 (some 97) (v := ?_) rfl rfl (by kernel_rfl) (by kernel_rfl) (by kernel_rfl) (fun _ _ _ h => h) (Or.inl ⟨by rfl, ?_⟩) (by assumption) ?_
              rotate_left
              · intro w_ hSw_; (try dsimp only at hSw_); go_simp; (try with_reducible rfl)
              try simp only [Act.put, List.setIfInBounds_toArray, List.set_cons_zero, List.set_cons_succ]
              refine take_op 9 (some 98) (v := ?_) rfl rfl (by kernel_rfl) (by kernel_rfl) (by kernel_rfl) (fun _ _ _ h => h) (Or.inl ⟨by rfl, ?_⟩) (by assumption) ?_
              rotate_left
              · intro w_ hSw_; (try dsimp only at hSw_); go_simp; (try with_reducible rfl)
              try simp only [Act.put, List.setIfInBounds_toArray, List.set_cons_zero, List.set_cons_succ]
              refine take_op 10 (some 99) (v := ?_) rfl rfl (by kernel_rfl) (by kernel_rfl) (by kernel_rfl) (fun _ _ _ h => h) (Or.inl ⟨by rfl, ?_⟩) (by assumption) ?_
              rotate_left
              · intro w_ hSw_; (try dsimp only at hSw_); go_simp; (try with_reducible rfl)
              try simp only [Act.put, List.setIfInBounds_toArray, List.set_cons_zero, List.set_cons_succ]
              refine wpAnyH_tab (fun w' => Below wi.heap.size wi w') [0, 4, 6] 3 [(0, 89, .newr wi.heap.size #[] 59), (4, 93, .ownk wi.heap.size 59 3 k ((out.take k).flatMap encE)), (6, 95, .rowk 1 #[.int .i64 x1, .int .i64 x2, .int .i64 x3] 59)] rfl rfl (by kernel_rfl) (fun _ h => h) (fun w1 w2 h hb => h.trans (hb.mono h.size)) hHeld ?_ ?_
              · skip
                refine InvSteps.cons rfl (fun xs_ wv hSv hr_ A_ hA_ K_ hK_ => ?_) ?_
                · skip
                  simp only [putAll, List.foldl, List.map, Act.put, List.setIfInBounds_toArray, List.set_cons_zero, List.set_cons_succ] at hA_
                  subst hA_
                  go_simp
                  exact hK_.out _ _ _ rfl ⟨_, rfl, hSv.size, Blk.new _ _ _⟩ ((Below.refl _ _).alloc (Nat.le_refl _) _)
                refine InvSteps.cons rfl (fun xs_ wv hSv hr_ A_ hA_ K_ hK_ => ?_) ?_
                · skip
                  obtain ⟨b0, e0, N0, B0⟩ := hr_ 0 (by kernel_rfl)
                  simp only [e0, putAll, List.foldl, List.map, Act.put, List.setIfInBounds_toArray, List.set_cons_zero, List.set_cons_succ] at hA_
                  subst hA_
                  refine step_appRowsFresh sl_rent rent_info rfl (by decide) encE_len encE_one (by decide) rfl rfl rfl b0 wi.heap.size N0 B0 (out.take k) (some ⟨g, 0, none⟩) k cap (by rw [List.length_take, ← HMO.out]; try omega) (SRC1.out.below hSv) (by have := HLE.out; omega) rfl rfl ?_
                  intro v' w' hown hb
                  exact hK_.out _ _ _ rfl hown hb
                refine InvSteps.cons rfl (fun xs_ wv hSv hr_ A_ hA_ K_ hK_ => ?_) ?_
                · skip
                  simp only [putAll, List.foldl, List.map, Act.put, List.setIfInBounds_toArray, List.set_cons_zero, List.set_cons_succ] at hA_
                  subst hA_
                  go_simp
                  exact hK_.out _ _ _ rfl ⟨_, rfl, Blk.new _ _ _⟩ ((Below.refl _ _).alloc (Nat.le_refl _) _)
                exact InvSteps.nil
              intro xs_ wv hSv hr_ A_ hA_
              have O4 : wv.ownsRow wi.heap.size 59 3 (xs_ 4) k ((out.take k).flatMap encE) := hr_ 4
              obtain ⟨b0, e0, N0, B0⟩ := hr_ 0
              obtain ⟨b6, e6, B6⟩ := hr_ 6
              simp only [e0, e6, putAll, List.foldl, List.map, Act.put, List.setIfInBounds_toArray, List.set_cons_zero, List.set_cons_succ] at hA_
              subst hA_
              clear hr_ e0 B0 N0 e6
              generalize xs_ 4 = v4 at O4
              refine go_op 7 rfl (by kernel_rfl) (fun K_ hK_ => ?_)
              refine step_appRows sl_rent rent_info rfl (by decide) encE_len encE_one (by decide) rfl rfl rfl wi.heap.size v4 k (out.take k) [(x1, x2, x3)] (some ⟨b6, 0, none⟩) 1 1 rfl O4 (SrcAt.one B6 rfl) (by have := HLE.out; omega) hSv.size rfl rfl ?_
              intro v7 w8 o7 g7 hv7
              have hb8 := hSv.trans (below_grown g7 hSv.size (fun k hk => owns_block O4 k hk))
              try simp only [Act.put, List.setIfInBounds_toArray, List.set_cons_zero, List.set_cons_succ]
              refine hK_.out _ _ hb8 (fun hHeld_ => ?_)
              refine go_op 11 rfl (by kernel_rfl) (fun K_ hK_ => ?_)
              refine step_appRows sl_rent rent_info rfl (by decide) encE_len encE_one (by decide) rfl rfl rfl wi.heap.size v7 (k + 1) (out.take k ++ [(x1, x2, x3)]) (out.drop k) (some ⟨g, k * 3, none⟩) (m - k) (cap - k) (by rw [List.length_drop, ← HMO.out]; try omega) o7 (SRC2.out.below hb8) (by have := HLE.out; omega) hb8.size rfl rfl ?_
              intro v8 w9 o8 g8 hv8
              have hb9 := hb8.trans (below_grown g8 hb8.size (fun k hk => owns_block o7 k hk))
              try simp only [Act.put, List.setIfInBounds_toArray, List.set_cons_zero, List.set_cons_succ]
              refine hK_.out _ _ hb9 (fun hHeld_ => ?_)
              refine take_op 12 (some 6) (v := ?_) rfl rfl (by kernel_rfl) (by kernel_rfl) (by kernel_rfl) (fun _ _ _ h => h) (Or.inl ⟨by rfl, ?_⟩) (by assumption) ?_
              rotate_left
              · intro w_ hSw_; (try dsimp only at hSw_); go_simp; (try with_reducible rfl)
              try simp only [Act.put, List.setIfInBounds_toArray, List.set_cons_zero, List.set_cons_succ]
              refine wpAnyH_done (by kernel_rfl) ?_ _
              have hins := HSORT.out.ins (x := (x1, x2, x3)) (k := k) HLT.out HGE.out
              have hlen : (out.take k ++ [(x1, x2, x3)] ++ out.drop k).length = k + 1 + (m - k) := by rw [List.length_append, List.length_append, List.length_take, List.length_drop, ← HMO.out, List.length_singleton]; try omega
              have HB9 := Lib.hid hb9
              have hO9 : w9.ownsRow w6.heap.size 59 3 v8 (out.take k ++ [(x1, x2, x3)] ++ out.drop k).length ((out.take k ++ [(x1, x2, x3)] ++ out.drop k).flatMap encE) := by rw [hlen]; exact owns_rebase o8 HBI.out.size
              have HO9 := Lib.hid hO9
              have hsum9 : addL (fun _ => none) (all.take (i + 1)) = some (updK M (x1, x2) x3) := by
                rw [HST.out, addL_snoc HSUM.out]
                have h0 : M (keyE (x1, x2, x3)) = none := hins.1
                rw [h0]
                show (if in64 (0 + x3) then some (updK M (x1, x2) (0 + x3)) else none) = _
                rw [Int.zero_add, if_pos HX3.out]
              have HSUM9 := Lib.hid hsum9
              have HIN9 := Lib.hid hins.2
              have HLEN9 := Lib.hid hlen
              clear hHeld hHeld_ o7 o8 g7 g8 hv7 hv8 hb8 hb9 hO9 hsum9 hins hlen O4 B6 hSv
              go_wp2_with fail
              go_roundw
              case rel => exact ⟨i + 1, _, _, v8, by omega, by go_num, rfl, rfl, rfl, HSUM9.out, HIN9.out, (by rw [HLEN9.out]; have := HLE.out; have := HMO.out; omega), HO9.out, HBI.out.trans (HB9.out.mono HBI.out.size)⟩
              case measure => simp [intOf]; omega
        · have g2 : ¬ (k : Int) < (m : Int) := by omega
          have hkm2 : k = m := by omega
          subst hkm2
          have HGE : Hid (∀ y, out[k]? = some y → ltK (x1, x2) (keyE y)) := Lib.hid (fun y hy => by
            have := (List.getElem?_eq_some_iff.1 hy).1
            have := HMO.out
            omega)
          have SRCD : Hid (out.drop k = []) := Lib.hid (by rw [HMO.out]; exact List.drop_length)
          rcases own_ad HOWI.out with ⟨h0, rfl, rfl⟩ | ⟨g, rfl, _⟩
          · subst h0
            have SRC2 : Hid (SrcAt encE 3 wi none (out.drop 0)) := Lib.hid (by rw [SRCD.out]; exact fun h => by simp at h)
            go_wp2_with fail
            refine wp_region_held_drew (S := fun _ => True) (by kernel_rfl) trivial (fun hHeld => ?_)
            refine take_op 0 (some 29) (v := ?_) rfl rfl (by kernel_rfl) (by kernel_rfl) (by kernel_rfl) (fun _ _ _ h => h) (Or.inl ⟨by rfl, ?_⟩) (by assumption) ?_
            rotate_left
            · intro w_ hSw_; (try dsimp only at hSw_); go_simp; (try with_reducible rfl)
            try simp only [Act.put, List.setIfInBounds_toArray, List.set_cons_zero, List.set_cons_succ]
            refine take_op 1 (some 30) (v := ?_) rfl rfl (by kernel_rfl) (by kernel_rfl) (by kernel_rfl) (fun _ _ _ h => h) (Or.inl ⟨by rfl, ?_⟩) (by assumption) ?_
            rotate_left
            · intro w_ hSw_; (try dsimp only at hSw_); go_simp; (try with_reducible rfl)
            try simp only [Act.put, List.setIfInBounds_toArray, List.set_cons_zero, List.set_cons_succ]
            refine take_op 2 (some 31) (v := ?_) rfl rfl (by kernel_rfl) (by kernel_rfl) (by kernel_rfl) (fun _ _ _ h => h) (Or.inl ⟨by rfl, ?_⟩) (by assumption) ?_
            rotate_left
            · intro w_ hSw_; (try dsimp only at hSw_); go_simp; (try with_reducible rfl)
            try simp only [Act.put, List.setIfInBounds_toArray, List.set_cons_zero, List.set_cons_succ]
            refine take_op 3 (some 32) (v := ?_) rfl rfl (by kernel_rfl) (by kernel_rfl) (by kernel_rfl) (fun _ _ _ h => h) (Or.inl ⟨by rfl, ?_⟩) (by assumption) ?_
            rotate_left
            · intro w_ hSw_; (try dsimp only at hSw_); go_simp; (try with_reducible rfl)
            try simp only [Act.put, List.setIfInBounds_toArray, List.set_cons_zero, List.set_cons_succ]
            refine take_op 4 (some 33) (v := ?_) rfl rfl (by kernel_rfl) (by kernel_rfl) (by kernel_rfl) (fun _ _ _ h => h) (Or.inl ⟨by rfl, ?_⟩) (by assumption) ?_
            rotate_left
            · intro w_ hSw_; (try dsimp only at hSw_); go_simp; (try with_reducible rfl)
            try simp only [Act.put, List.setIfInBounds_toArray, List.set_cons_zero, List.set_cons_succ]
            refine take_op 5 (some 34) rfl rfl (by kernel_rfl) (by kernel_rfl) (by kernel_rfl) (fun _ _ _ h => h) (Or.inr ⟨by rfl, rfl⟩) (by assumption) ?_
            try simp only [Act.put, List.setIfInBounds_toArray, List.set_cons_zero, List.set_cons_succ]
            refine take_op 6 (some 35) rfl rfl (by kernel_rfl) (by kernel_rfl) (by kernel_rfl) (fun _ _ _ h => h) (Or.inr ⟨by rfl, rfl⟩) (by assumption) ?_
            try simp only [Act.put, List.setIfInBounds_toArray, List.set_cons_zero, List.set_cons_succ]
            refine take_op 7 (some 36) rfl rfl (by kernel_rfl) (by kernel_rfl) (by kernel_rfl) (fun _ _ _ h => h) (Or.inr ⟨by rfl, rfl⟩) (by assumption) ?_
            try simp only [Act.put, List.setIfInBounds_toArray, List.set_cons_zero, List.set_cons_succ]
            refine take_op 8 (some 37) rfl rfl (by kernel_rfl) (by kernel_rfl) (by kernel_rfl) (fun _ _ _ h => h) (Or.inr ⟨by rfl, rfl⟩) (by assumption) ?_
            try simp only [Act.put, List.setIfInBounds_toArray, List.set_cons_zero, List.set_cons_succ]
            refine take_op 9 (some 38) rfl rfl (by kernel_rfl) (by kernel_rfl) (by kernel_rfl) (fun _ _ _ h => h) (Or.inr ⟨by rfl, rfl⟩) (by assumption) ?_
            try simp only [Act.put, List.setIfInBounds_toArray, List.set_cons_zero, List.set_cons_succ]
            refine take_op 10 (some 39) rfl rfl (by kernel_rfl) (by kernel_rfl) (by kernel_rfl) (fun _ _ _ h => h) (Or.inr ⟨by rfl, rfl⟩) (by assumption) ?_
            try simp only [Act.put, List.setIfInBounds_toArray, List.set_cons_zero, List.set_cons_succ]
            refine take_op 11 (some 40) rfl rfl (by kernel_rfl) (by kernel_rfl) (by kernel_rfl) (fun _ _ _ h => h) (Or.inr ⟨by rfl, rfl⟩) (by assumption) ?_
            try simp only [Act.put, List.setIfInBounds_toArray, List.set_cons_zero, List.set_cons_succ]
            refine take_op 12 (some 41) rfl rfl (by kernel_rfl) (by kernel_rfl) (by kernel_rfl) (fun _ _ _ h => h) (Or.inr ⟨by rfl, rfl⟩) (by assumption) ?_
            try simp only [Act.put, List.setIfInBounds_toArray, List.set_cons_zero, List.set_cons_succ]
            refine take_op 13 (some 42) rfl rfl (by kernel_rfl) (by kernel_rfl) (by kernel_rfl) (fun _ _ _ h => h) (Or.inr ⟨by rfl, rfl⟩) (by assumption) ?_
            try simp only [Act.put, List.setIfInBounds_toArray, List.set_cons_zero, List.set_cons_succ]
            refine take_op 14 (some 43) rfl rfl (by kernel_rfl) (by kernel_rfl) (by kernel_rfl) (fun _ _ _ h => h) (Or.inr ⟨by rfl, rfl⟩) (by assumption) ?_
            try simp only [Act.put, List.setIfInBounds_toArray, List.set_cons_zero, List.set_cons_succ]
            refine take_op 15 (some 44) rfl rfl (by kernel_rfl) (by kernel_rfl) (by kernel_rfl) (fun _ _ _ h => h) (Or.inr ⟨by rfl, rfl⟩) (by assumption) ?_
            try simp only [Act.put, List.setIfInBounds_toArray, List.set_cons_zero, List.set_cons_succ]
            refine take_op 16 (some 45) rfl rfl (by kernel_rfl) (by kernel_rfl) (by kernel_rfl) (fun _ _ _ h => h) (Or.inr ⟨by rfl, rfl⟩) (by assumption) ?_
            try simp only [Act.put, List.setIfInBounds_toArray, List.set_cons_zero, List.set_cons_succ]
            refine take_op 17 (some 46) rfl rfl (by kernel_rfl) (by kernel_rfl) (by kernel_rfl) (fun _ _ _ h => h) (Or.inr ⟨by rfl, rfl⟩) (by assumption) ?_
            try simp only [Act.put, List.setIfInBounds_toArray, List.set_cons_zero, List.set_cons_succ]
            refine take_op 18 (some 47) rfl rfl (by kernel_rfl) (by kernel_rfl) (by kernel_rfl) (fun _ _ _ h => h) (Or.inr ⟨by rfl, rfl⟩) (by assumption) ?_
            try simp only [Act.put, List.setIfInBounds_toArray, List.set_cons_zero, List.set_cons_succ]
            refine take_op 19 (some 48) rfl rfl (by kernel_rfl) (by kernel_rfl) (by kernel_rfl) (fun _ _ _ h => h) (Or.inr ⟨by rfl, rfl⟩) (by assumption) ?_
            try simp only [Act.put, List.setIfInBounds_toArray, List.set_cons_zero, List.set_cons_succ]
            refine take_op 20 (some 49) rfl rfl (by kernel_rfl) (by kernel_rfl) (by kernel_rfl) (fun _ _ _ h => h) (Or.inr ⟨by rfl, rfl⟩) (by assumption) ?_
            try simp only [Act.put, List.setIfInBounds_toArray, List.set_cons_zero, List.set_cons_succ]
            refine take_op 21 (some 50) rfl rfl (by kernel_rfl) (by kernel_rfl) (by kernel_rfl) (fun _ _ _ h => h) (Or.inr ⟨by rfl, rfl⟩) (by assumption) ?_
            try simp only [Act.put, List.setIfInBounds_toArray, List.set_cons_zero, List.set_cons_succ]
            refine take_op 22 (some 51) rfl rfl (by kernel_rfl) (by kernel_rfl) (by kernel_rfl) (fun _ _ _ h => h) (Or.inr ⟨by rfl, rfl⟩) (by assumption) ?_
            try simp only [Act.put, List.setIfInBounds_toArray, List.set_cons_zero, List.set_cons_succ]
            refine take_op 23 (some 52) rfl rfl (by kernel_rfl) (by kernel_rfl) (by kernel_rfl) (fun _ _ _ h => h) (Or.inr ⟨by rfl, rfl⟩) (by assumption) ?_
            try simp only [Act.put, List.setIfInBounds_toArray, List.set_cons_zero, List.set_cons_succ]
            refine take_op 24 (some 53) rfl rfl (by kernel_rfl) (by kernel_rfl) (by kernel_rfl) (fun _ _ _ h => h) (Or.inr ⟨by rfl, rfl⟩) (by assumption) ?_
            try simp only [Act.put, List.setIfInBounds_toArray, List.set_cons_zero, List.set_cons_succ]
            refine take_op 25 (some 54) rfl rfl (by kernel_rfl) (by kernel_rfl) (by kernel_rfl) (fun _ _ _ h => h) (Or.inr ⟨by rfl, rfl⟩) (by assumption) ?_
            try simp only [Act.put, List.setIfInBounds_toArray, List.set_cons_zero, List.set_cons_succ]
            refine take_op 26 (some 55) rfl rfl (by kernel_rfl) (by kernel_rfl) (by kernel_rfl) (fun _ _ _ h => h) (Or.inr ⟨by rfl, rfl⟩) (by assumption) ?_
            try simp only [Act.put, List.setIfInBounds_toArray, List.set_cons_zero, List.set_cons_succ]
            refine take_op 27 (some 56) rfl rfl (by kernel_rfl) (by kernel_rfl) (by kernel_rfl) (fun _ _ _ h => h) (Or.inr ⟨by rfl, rfl⟩) (by assumption) ?_
            try simp only [Act.put, List.setIfInBounds_toArray, List.set_cons_zero, List.set_cons_succ]
            refine take_op 28 (some 57) rfl rfl (by kernel_rfl) (by kernel_rfl) (by kernel_rfl) (fun _ _ _ h => h) (Or.inr ⟨by rfl, rfl⟩) (by assumption) ?_
            try simp only [Act.put, List.setIfInBounds_toArray, List.set_cons_zero, List.set_cons_succ]
            refine take_op 29 (some 58) rfl rfl (by kernel_rfl) (by kernel_rfl) (by kernel_rfl) (fun _ _ _ h => h) (Or.inr ⟨by rfl, rfl⟩) (by assumption) ?_
            try simp only [Act.put, List.setIfInBounds_toArray, List.set_cons_zero, List.set_cons_succ]
            refine take_op 30 (some 59) rfl rfl (by kernel_rfl) (by kernel_rfl) (by kernel_rfl) (fun _ _ _ h => h) (Or.inr ⟨by rfl, rfl⟩) (by assumption) ?_
            try simp only [Act.put, List.setIfInBounds_toArray, List.set_cons_zero, List.set_cons_succ]
            refine take_op 31 (some 60) rfl rfl (by kernel_rfl) (by kernel_rfl) (by kernel_rfl) (fun _ _ _ h => h) (Or.inr ⟨by rfl, rfl⟩) (by assumption) ?_
            try simp only [Act.put, List.setIfInBounds_toArray, List.set_cons_zero, List.set_cons_succ]
            refine take_op 32 (some 61) rfl rfl (by kernel_rfl) (by kernel_rfl) (by kernel_rfl) (fun _ _ _ h => h) (Or.inr ⟨by rfl, rfl⟩) (by assumption) ?_
            try simp only [Act.put, List.setIfInBounds_toArray, List.set_cons_zero, List.set_cons_succ]
            refine take_op 33 (some 62) (v := ?_) rfl rfl (by kernel_rfl) (by kernel_rfl) (by kernel_rfl) (fun _ _ _ h => h) (Or.inl ⟨by rfl, ?_⟩) (by assumption) ?_
            rotate_left
            · intro w_ hSw_; (try dsimp only at hSw_); go_simp; (try with_reducible rfl)
            try simp only [Act.put, List.setIfInBounds_toArray, List.set_cons_zero, List.set_cons_succ]
            refine wpAnyH_done (by kernel_rfl) ?_ _
            clear hHeld
            go_wp2_with fail
            refine wp_region_held_drew (S := fun _ => True) (by kernel_rfl) trivial (fun hHeld => ?_)
            refine take_op 0 (some 65) (v := ?_) rfl rfl (by kernel_rfl) (by kernel_rfl) (by kernel_rfl) (fun _ _ _ h => h) (Or.inl ⟨by rfl, ?_⟩) (by assumption) ?_
            rotate_left
            · intro w_ hSw_; (try dsimp only at hSw_); go_simp; (try with_reducible rfl)
            try simp only [Act.put, List.setIfInBounds_toArray, List.set_cons_zero, List.set_cons_succ]
            refine take_op 1 (some 66) (v := ?_) rfl rfl (by kernel_rfl) (by kernel_rfl) (by kernel_rfl) (fun _ _ _ h => h) (Or.inl ⟨by rfl, ?_⟩) (by assumption) ?_
            rotate_left
            · intro w_ hSw_; (try dsimp only at hSw_); go_simp; (try with_reducible rfl)
            try simp only [Act.put, List.setIfInBounds_toArray, List.set_cons_zero, List.set_cons_succ]
            refine take_op 2 (some 67) (v := ?_) rfl rfl (by kernel_rfl) (by kernel_rfl) (by kernel_rfl) (fun _ _ _ h => h) (Or.inl ⟨by rfl, ?_⟩) (by assumption) ?_
            rotate_left
            · intro w_ hSw_; (try dsimp only at hSw_); go_simp; (try with_reducible rfl)
            try simp only [Act.put, List.setIfInBounds_toArray, List.set_cons_zero, List.set_cons_succ]
            refine take_op 3 (some 68) (v := ?_) rfl rfl (by kernel_rfl) (by kernel_rfl) (by kernel_rfl) (fun _ _ _ h => h) (Or.inl ⟨by rfl, ?_⟩) (by assumption) ?_
            rotate_left
            · intro w_ hSw_; (try dsimp only at hSw_); go_simp; (try with_reducible rfl)
            try simp only [Act.put, List.setIfInBounds_toArray, List.set_cons_zero, List.set_cons_succ]
            refine take_op 4 (some 69) (v := ?_) rfl rfl (by kernel_rfl) (by kernel_rfl) (by kernel_rfl) (fun _ _ _ h => h) (Or.inl ⟨by rfl, ?_⟩) (by assumption) ?_
            rotate_left
            · intro w_ hSw_; (try dsimp only at hSw_); go_simp; (try with_reducible rfl)
            try simp only [Act.put, List.setIfInBounds_toArray, List.set_cons_zero, List.set_cons_succ]
            refine take_op 5 (some 70) rfl rfl (by kernel_rfl) (by kernel_rfl) (by kernel_rfl) (fun _ _ _ h => h) (Or.inr ⟨by rfl, rfl⟩) (by assumption) ?_
            try simp only [Act.put, List.setIfInBounds_toArray, List.set_cons_zero, List.set_cons_succ]
            refine take_op 6 (some 71) rfl rfl (by kernel_rfl) (by kernel_rfl) (by kernel_rfl) (fun _ _ _ h => h) (Or.inr ⟨by rfl, rfl⟩) (by assumption) ?_
            try simp only [Act.put, List.setIfInBounds_toArray, List.set_cons_zero, List.set_cons_succ]
            refine take_op 7 (some 72) rfl rfl (by kernel_rfl) (by kernel_rfl) (by kernel_rfl) (fun _ _ _ h => h) (Or.inr ⟨by rfl, rfl⟩) (by assumption) ?_
            try simp only [Act.put, List.setIfInBounds_toArray, List.set_cons_zero, List.set_cons_succ]
            refine take_op 8 (some 73) rfl rfl (by kernel_rfl) (by kernel_rfl) (by kernel_rfl) (fun _ _ _ h => h) (Or.inr ⟨by rfl, rfl⟩) (by assumption) ?_
            try simp only [Act.put, List.setIfInBounds_toArray, List.set_cons_zero, List.set_cons_succ]
            refine take_op 9 (some 74) rfl rfl (by kernel_rfl) (by kernel_rfl) (by kernel_rfl) (fun _ _ _ h => h) (Or.inr ⟨by rfl, rfl⟩) (by assumption) ?_
            try simp only [Act.put, List.setIfInBounds_toArray, List.set_cons_zero, List.set_cons_succ]
            refine take_op 10 (some 75) rfl rfl (by kernel_rfl) (by kernel_rfl) (by kernel_rfl) (fun _ _ _ h => h) (Or.inr ⟨by rfl, rfl⟩) (by assumption) ?_
            try simp only [Act.put, List.setIfInBounds_toArray, List.set_cons_zero, List.set_cons_succ]
            refine take_op 11 (some 76) rfl rfl (by kernel_rfl) (by kernel_rfl) (by kernel_rfl) (fun _ _ _ h => h) (Or.inr ⟨by rfl, rfl⟩) (by assumption) ?_
            try simp only [Act.put, List.setIfInBounds_toArray, List.set_cons_zero, List.set_cons_succ]
            refine take_op 12 (some 77) rfl rfl (by kernel_rfl) (by kernel_rfl) (by kernel_rfl) (fun _ _ _ h => h) (Or.inr ⟨by rfl, rfl⟩) (by assumption) ?_
            try simp only [Act.put, List.setIfInBounds_toArray, List.set_cons_zero, List.set_cons_succ]
            refine take_op 13 (some 78) (v := ?_) rfl rfl (by kernel_rfl) (by kernel_rfl) (by kernel_rfl) (fun _ _ _ h => h) (Or.inl ⟨by rfl, ?_⟩) (by assumption) ?_
            rotate_left
            · intro w_ hSw_; (try dsimp only at hSw_); go_simp; (try with_reducible rfl)
            try simp only [Act.put, List.setIfInBounds_toArray, List.set_cons_zero, List.set_cons_succ]
            refine take_op 14 (some 79) (v := ?_) rfl rfl (by kernel_rfl) (by kernel_rfl) (by kernel_rfl) (fun _ _ _ h => h) (Or.inl ⟨by rfl, ?_⟩) (by assumption) ?_
            rotate_left
            · intro w_ hSw_; (try dsimp only at hSw_); go_simp; (try with_reducible rfl)
            try simp only [Act.put, List.setIfInBounds_toArray, List.set_cons_zero, List.set_cons_succ]
            refine take_op 15 (some 80) rfl rfl (by kernel_rfl) (by kernel_rfl) (by kernel_rfl) (fun _ _ _ h => h) (Or.inr ⟨by rfl, rfl⟩) (by assumption) ?_
            try simp only [Act.put, List.setIfInBounds_toArray, List.set_cons_zero, List.set_cons_succ]
            refine take_op 16 (some 81) rfl rfl (by kernel_rfl) (by kernel_rfl) (by kernel_rfl) (fun _ _ _ h => h) (Or.inr ⟨by rfl, rfl⟩) (by assumption) ?_
            try simp only [Act.put, List.setIfInBounds_toArray, List.set_cons_zero, List.set_cons_succ]
            refine take_op 17 (some 82) rfl rfl (by kernel_rfl) (by kernel_rfl) (by kernel_rfl) (fun _ _ _ h => h) (Or.inr ⟨by rfl, rfl⟩) (by assumption) ?_
            try simp only [Act.put, List.setIfInBounds_toArray, List.set_cons_zero, List.set_cons_succ]
            refine take_op 18 (some 83) rfl rfl (by kernel_rfl) (by kernel_rfl) (by kernel_rfl) (fun _ _ _ h => h) (Or.inr ⟨by rfl, rfl⟩) (by assumption) ?_
            try simp only [Act.put, List.setIfInBounds_toArray, List.set_cons_zero, List.set_cons_succ]
            refine take_op 19 (some 84) rfl rfl (by kernel_rfl) (by kernel_rfl) (by kernel_rfl) (fun _ _ _ h => h) (Or.inr ⟨by rfl, rfl⟩) (by assumption) ?_
            try simp only [Act.put, List.setIfInBounds_toArray, List.set_cons_zero, List.set_cons_succ]
            refine take_op 20 (some 85) rfl rfl (by kernel_rfl) (by kernel_rfl) (by kernel_rfl) (fun _ _ _ h => h) (Or.inr ⟨by rfl, rfl⟩) (by assumption) ?_
            try simp only [Act.put, List.setIfInBounds_toArray, List.set_cons_zero, List.set_cons_succ]
            refine take_op 21 (some 86) rfl rfl (by kernel_rfl) (by kernel_rfl) (by kernel_rfl) (fun _ _ _ h => h) (Or.inr ⟨by rfl, rfl⟩) (by assumption) ?_
            try simp only [Act.put, List.setIfInBounds_toArray, List.set_cons_zero, List.set_cons_succ]
            refine take_op 22 (some 87) rfl rfl (by kernel_rfl) (by kernel_rfl) (by kernel_rfl) (fun _ _ _ h => h) (Or.inr ⟨by rfl, rfl⟩) (by assumption) ?_
            try simp only [Act.put, List.setIfInBounds_toArray, List.set_cons_zero, List.set_cons_succ]
            refine take_op 23 (some 88) (v := ?_) rfl rfl (by kernel_rfl) (by kernel_rfl) (by kernel_rfl) (fun _ _ _ h => h) (Or.inl ⟨by rfl, ?_⟩) (by assumption) ?_
            rotate_left
            · intro w_ hSw_; (try dsimp only at hSw_); go_simp; (try with_reducible rfl)
            try simp only [Act.put, List.setIfInBounds_toArray, List.set_cons_zero, List.set_cons_succ]
            refine wpAnyH_done (by kernel_rfl) ?_ _
            clear hHeld
            have hD : Below wi.heap.size wi wi.drew.drew := (Below.refl _ wi).drew.drew
            have HBI9 := Lib.hid (HBI.out.trans (hD.mono HBI.out.size))
            have X09 := Lib.hid ((hD.cell (p := ⟨bx, 0, none⟩) HBX.out).trans X0.out)
            have X19 := Lib.hid ((hD.cell (p := ⟨bx, 1, none⟩) HBX.out).trans X1.out)
            have X29 := Lib.hid ((hD.cell (p := ⟨bx, 2, none⟩) HBX.out).trans X2.out)
            have HBX9 : Hid (bx < wi.drew.drew.heap.size) := Lib.hid (Nat.lt_of_lt_of_le HBX.out hD.size)
            have HOWI9 := Lib.hid (owns_below HOWI.out hD (Nat.le_refl _))
            have SRC19 := Lib.hid (SRC1.out.below hD)
            have SRC29 := Lib.hid (SRC2.out.below hD)
            clear hD HBI X0 X1 X2 HBX HOWI SRC1 HBW SRC2
            revert HBI9 X09 X19 X29 HBX9 HOWI9 SRC19 SRC29
            generalize wi.drew.drew = wi
            intro HBI X0 X1 X2 HBX HOWI SRC1 SRC2
            go_wp2_with fail
            refine wp_region_held_drew (S := fun w' => Below wi.heap.size wi w') (by kernel_rfl) (Below.refl _ wi).drew (fun hHeld => ?_)
            refine take_op 1 (some 90) (v := ?_) rfl rfl (by kernel_rfl) (by kernel_rfl) (by kernel_rfl) (fun _ _ _ h => h) (Or.inl ⟨by rfl, ?_⟩) (by assumption) ?_
            rotate_left
            · intro w_ hSw_; (try dsimp only at hSw_); go_simp; (try with_reducible rfl)
            try simp only [Act.put, List.setIfInBounds_toArray, List.set_cons_zero, List.set_cons_succ]
            refine take_op 2 (some 91) (v := ?_) rfl rfl (by kernel_rfl) (by kernel_rfl) (by kernel_rfl) (fun _ _ _ h => h) (Or.inl ⟨by rfl, ?_⟩) (by assumption) ?_
            rotate_left
            · intro w_ hSw_; (try dsimp only at hSw_); go_simp; (try with_reducible rfl)
            try simp only [Act.put, List.setIfInBounds_toArray, List.set_cons_zero, List.set_cons_succ]
            refine take_op 3 (some 92) (v := ?_) rfl rfl (by kernel_rfl) (by kernel_rfl) (by kernel_rfl) (fun _ _ _ h => h) (Or.inl ⟨by rfl, ?_⟩) (by assumption) ?_
            rotate_left
            · intro w_ hSw_; (try dsimp only at hSw_); go_simp; (try with_reducible rfl)
            try simp only [Act.put, List.setIfInBounds_toArray, List.set_cons_zero, List.set_cons_succ]
            refine take_op 5 (some 94) (v := .agg #[.int .i64 x1, .int .i64 x2, .int .i64 x3]) rfl rfl (by kernel_rfl) (by kernel_rfl) (by kernel_rfl) (fun _ _ _ h => h) (Or.inl ⟨by rfl, ?_⟩) (by assumption) ?_
            · intro w_ hSw_
              have c0 := (hSw_.cell (p := ⟨bx, 0, none⟩) HBX.out).trans X0.out
              have c1 := (hSw_.cell (p := ⟨bx, 1, none⟩) HBX.out).trans X1.out
              have c2 := (hSw_.cell (p := ⟨bx, 2, none⟩) HBX.out).trans X2.out
              go_simp
              try rfl
            try simp only [Act.put, List.setIfInBounds_toArray, List.set_cons_zero, List.set_cons_succ]
            refine take_op 8 (some 97) (v := ?_) rfl rfl (by kernel_rfl) (by kernel_rfl) (by kernel_rfl) (fun _ _ _ h => h) (Or.inl ⟨by rfl, ?_⟩) (by assumption) ?_
            rotate_left
            · intro w_ hSw_; (try dsimp only at hSw_); go_simp; (try with_reducible rfl)
            try simp only [Act.put, List.setIfInBounds_toArray, List.set_cons_zero, List.set_cons_succ]
            refine take_op 9 (some 98) (v := ?_) rfl rfl (by kernel_rfl) (by kernel_rfl) (by kernel_rfl) (fun _ _ _ h => h) (Or.inl ⟨by rfl, ?_⟩) (by assumption) ?_
            rotate_left
            · intro w_ hSw_; (try dsimp only at hSw_); go_simp; (try with_reducible rfl)
            try simp only [Act.put, List.setIfInBounds_toArray, List.set_cons_zero, List.set_cons_succ]
            refine take_op 10 (some 99) (v := ?_) rfl rfl (by kernel_rfl) (by kernel_rfl) (by kernel_rfl) (fun _ _ _ h => h) (Or.inl ⟨by rfl, ?_⟩) (by assumption) ?_
            rotate_left
            · intro w_ hSw_; (try dsimp only at hSw_); go_simp; (try with_reducible rfl)
            try simp only [Act.put, List.setIfInBounds_toArray, List.set_cons_zero, List.set_cons_succ]
            refine wpAnyH_tab (fun w' => Below wi.heap.size wi w') [0, 4, 6] 3 [(0, 89, .newr wi.heap.size #[] 59), (4, 93, .ownk wi.heap.size 59 3 0 ((out.take 0).flatMap encE)), (6, 95, .rowk 1 #[.int .i64 x1, .int .i64 x2, .int .i64 x3] 59)] rfl rfl (by kernel_rfl) (fun _ h => h) (fun w1 w2 h hb => h.trans (hb.mono h.size)) hHeld ?_ ?_
            · skip
              refine InvSteps.cons rfl (fun xs_ wv hSv hr_ A_ hA_ K_ hK_ => ?_) ?_
              · skip
                simp only [putAll, List.foldl, List.map, Act.put, List.setIfInBounds_toArray, List.set_cons_zero, List.set_cons_succ] at hA_
                subst hA_
                go_simp
                exact hK_.out _ _ _ rfl ⟨_, rfl, hSv.size, Blk.new _ _ _⟩ ((Below.refl _ _).alloc (Nat.le_refl _) _)
              refine InvSteps.cons rfl (fun xs_ wv hSv hr_ A_ hA_ K_ hK_ => ?_) ?_
              · skip
                obtain ⟨b0, e0, N0, B0⟩ := hr_ 0 (by kernel_rfl)
                simp only [e0, putAll, List.foldl, List.map, Act.put, List.setIfInBounds_toArray, List.set_cons_zero, List.set_cons_succ] at hA_
                subst hA_
                refine step_appRowsFresh sl_rent rent_info rfl (by decide) encE_len encE_one (by decide) rfl rfl rfl b0 wi.heap.size N0 B0 (out.take 0) none 0 0 (by rw [List.length_take, ← HMO.out]; try omega) (SRC1.out.below hSv) (by have := HLE.out; omega) rfl rfl ?_
                intro v' w' hown hb
                exact hK_.out _ _ _ rfl hown hb
              refine InvSteps.cons rfl (fun xs_ wv hSv hr_ A_ hA_ K_ hK_ => ?_) ?_
              · skip
                simp only [putAll, List.foldl, List.map, Act.put, List.setIfInBounds_toArray, List.set_cons_zero, List.set_cons_succ] at hA_
                subst hA_
                go_simp
                exact hK_.out _ _ _ rfl ⟨_, rfl, Blk.new _ _ _⟩ ((Below.refl _ _).alloc (Nat.le_refl _) _)
              exact InvSteps.nil
            intro xs_ wv hSv hr_ A_ hA_
            have O4 : wv.ownsRow wi.heap.size 59 3 (xs_ 4) 0 ((out.take 0).flatMap encE) := hr_ 4
            obtain ⟨b0, e0, N0, B0⟩ := hr_ 0
            obtain ⟨b6, e6, B6⟩ := hr_ 6
            simp only [e0, e6, putAll, List.foldl, List.map, Act.put, List.setIfInBounds_toArray, List.set_cons_zero, List.set_cons_succ] at hA_
            subst hA_
            clear hr_ e0 B0 N0 e6
            generalize xs_ 4 = v4 at O4
            refine go_op 7 rfl (by kernel_rfl) (fun K_ hK_ => ?_)
            refine step_appRows sl_rent rent_info rfl (by decide) encE_len encE_one (by decide) rfl rfl rfl wi.heap.size v4 0 (out.take 0) [(x1, x2, x3)] (some ⟨b6, 0, none⟩) 1 1 rfl O4 (SrcAt.one B6 rfl) (by have := HLE.out; omega) hSv.size rfl rfl ?_
            intro v7 w8 o7 g7 hv7
            have hb8 := hSv.trans (below_grown g7 hSv.size (fun k hk => owns_block O4 k hk))
            try simp only [Act.put, List.setIfInBounds_toArray, List.set_cons_zero, List.set_cons_succ]
            refine hK_.out _ _ hb8 (fun hHeld_ => ?_)
            refine go_op 11 rfl (by kernel_rfl) (fun K_ hK_ => ?_)
            refine step_appRows sl_rent rent_info rfl (by decide) encE_len encE_one (by decide) rfl rfl rfl wi.heap.size v7 (0 + 1) (out.take 0 ++ [(x1, x2, x3)]) (out.drop 0) none 0 0 (by rw [List.length_drop, ← HMO.out]; try omega) o7 (SRC2.out.below hb8) (by have := HLE.out; omega) hb8.size rfl rfl ?_
            intro v8 w9 o8 g8 hv8
            have hb9 := hb8.trans (below_grown g8 hb8.size (fun k hk => owns_block o7 k hk))
            try simp only [Act.put, List.setIfInBounds_toArray, List.set_cons_zero, List.set_cons_succ]
            refine hK_.out _ _ hb9 (fun hHeld_ => ?_)
            refine take_op 12 (some 6) (v := ?_) rfl rfl (by kernel_rfl) (by kernel_rfl) (by kernel_rfl) (fun _ _ _ h => h) (Or.inl ⟨by rfl, ?_⟩) (by assumption) ?_
            rotate_left
            · intro w_ hSw_; (try dsimp only at hSw_); go_simp; (try with_reducible rfl)
            try simp only [Act.put, List.setIfInBounds_toArray, List.set_cons_zero, List.set_cons_succ]
            refine wpAnyH_done (by kernel_rfl) ?_ _
            have hins := HSORT.out.ins (x := (x1, x2, x3)) (k := 0) HLT.out HGE.out
            have hlen : (out.take 0 ++ [(x1, x2, x3)] ++ out.drop 0).length = 0 + 1 + 0 := by rw [List.length_append, List.length_append, List.length_take, List.length_drop, ← HMO.out, List.length_singleton]; try omega
            have HB9 := Lib.hid hb9
            have hO9 : w9.ownsRow w6.heap.size 59 3 v8 (out.take 0 ++ [(x1, x2, x3)] ++ out.drop 0).length ((out.take 0 ++ [(x1, x2, x3)] ++ out.drop 0).flatMap encE) := by rw [hlen]; exact owns_rebase o8 HBI.out.size
            have HO9 := Lib.hid hO9
            have hsum9 : addL (fun _ => none) (all.take (i + 1)) = some (updK M (x1, x2) x3) := by
              rw [HST.out, addL_snoc HSUM.out]
              have h0 : M (keyE (x1, x2, x3)) = none := hins.1
              rw [h0]
              show (if in64 (0 + x3) then some (updK M (x1, x2) (0 + x3)) else none) = _
              rw [Int.zero_add, if_pos HX3.out]
            have HSUM9 := Lib.hid hsum9
            have HIN9 := Lib.hid hins.2
            have HLEN9 := Lib.hid hlen
            clear hHeld hHeld_ o7 o8 g7 g8 hv7 hv8 hb8 hb9 hO9 hsum9 hins hlen O4 B6 hSv
            go_wp2_with fail
            go_roundw
            case rel => exact ⟨i + 1, _, _, v8, by omega, by go_num, rfl, rfl, rfl, HSUM9.out, HIN9.out, (by rw [HLEN9.out]; have := HLE.out; have := HMO.out; omega), HO9.out, HBI.out.trans (HB9.out.mono HBI.out.size)⟩
            case measure => simp [intOf]; omega
          · have hkc : k ≤ cap := by omega
            by_cases hck : cap = k
            · have hck9 := hck.symm
              subst hck9
              have SRC2 : Hid (SrcAt encE 3 wi (some ⟨g, 0, none⟩) (out.drop k)) := Lib.hid (by rw [SRCD.out]; exact fun h => by simp at h)
              go_wp2_with fail
              refine wp_region_held_drew (S := fun _ => True) (by kernel_rfl) trivial (fun hHeld => ?_)
              refine take_op 0 (some 29) (v := ?_) rfl rfl (by kernel_rfl) (by kernel_rfl) (by kernel_rfl) (fun _ _ _ h => h) (Or.inl ⟨by rfl, ?_⟩) (by assumption) ?_
              rotate_left
              · intro w_ hSw_; (try dsimp only at hSw_); go_simp; (try with_reducible rfl)
              try simp only [Act.put, List.setIfInBounds_toArray, List.set_cons_zero, List.set_cons_succ]
              refine take_op 1 (some 30) (v := ?_) rfl rfl (by kernel_rfl) (by kernel_rfl) (by kernel_rfl) (fun _ _ _ h => h) (Or.inl ⟨by rfl, ?_⟩) (by assumption) ?_
              rotate_left
              · intro w_ hSw_; (try dsimp only at hSw_); go_simp; (try with_reducible rfl)
              try simp only [Act.put, List.setIfInBounds_toArray, List.set_cons_zero, List.set_cons_succ]
              refine take_op 2 (some 31) (v := ?_) rfl rfl (by kernel_rfl) (by kernel_rfl) (by kernel_rfl) (fun _ _ _ h => h) (Or.inl ⟨by rfl, ?_⟩) (by assumption) ?_
              rotate_left
              · intro w_ hSw_; (try dsimp only at hSw_); go_simp; (try with_reducible rfl)
              try simp only [Act.put, List.setIfInBounds_toArray, List.set_cons_zero, List.set_cons_succ]
              refine take_op 3 (some 32) (v := ?_) rfl rfl (by kernel_rfl) (by kernel_rfl) (by kernel_rfl) (fun _ _ _ h => h) (Or.inl ⟨by rfl, ?_⟩) (by assumption) ?_
              rotate_left
              · intro w_ hSw_; (try dsimp only at hSw_); go_simp; (try with_reducible rfl)
              try simp only [Act.put, List.setIfInBounds_toArray, List.set_cons_zero, List.set_cons_succ]
              refine take_op 4 (some 33) (v := ?_) rfl rfl (by kernel_rfl) (by kernel_rfl) (by kernel_rfl) (fun _ _ _ h => h) (Or.inl ⟨by rfl, ?_⟩) (by assumption) ?_
              rotate_left
              · intro w_ hSw_; (try dsimp only at hSw_); go_simp; (try with_reducible rfl)
              try simp only [Act.put, List.setIfInBounds_toArray, List.set_cons_zero, List.set_cons_succ]
              refine take_op 5 (some 34) rfl rfl (by kernel_rfl) (by kernel_rfl) (by kernel_rfl) (fun _ _ _ h => h) (Or.inr ⟨by rfl, rfl⟩) (by assumption) ?_
              try simp only [Act.put, List.setIfInBounds_toArray, List.set_cons_zero, List.set_cons_succ]
              refine take_op 6 (some 35) rfl rfl (by kernel_rfl) (by kernel_rfl) (by kernel_rfl) (fun _ _ _ h => h) (Or.inr ⟨by rfl, rfl⟩) (by assumption) ?_
              try simp only [Act.put, List.setIfInBounds_toArray, List.set_cons_zero, List.set_cons_succ]
              refine take_op 7 (some 36) rfl rfl (by kernel_rfl) (by kernel_rfl) (by kernel_rfl) (fun _ _ _ h => h) (Or.inr ⟨by rfl, rfl⟩) (by assumption) ?_
              try simp only [Act.put, List.setIfInBounds_toArray, List.set_cons_zero, List.set_cons_succ]
              refine take_op 8 (some 37) rfl rfl (by kernel_rfl) (by kernel_rfl) (by kernel_rfl) (fun _ _ _ h => h) (Or.inr ⟨by rfl, rfl⟩) (by assumption) ?_
              try simp only [Act.put, List.setIfInBounds_toArray, List.set_cons_zero, List.set_cons_succ]
              refine take_op 9 (some 38) rfl rfl (by kernel_rfl) (by kernel_rfl) (by kernel_rfl) (fun _ _ _ h => h) (Or.inr ⟨by rfl, rfl⟩) (by assumption) ?_
              try simp only [Act.put, List.setIfInBounds_toArray, List.set_cons_zero, List.set_cons_succ]
              refine take_op 10 (some 39) rfl rfl (by kernel_rfl) (by kernel_rfl) (by kernel_rfl) (fun _ _ _ h => h) (Or.inr ⟨by rfl, rfl⟩) (by assumption) ?_
              try simp only [Act.put, List.setIfInBounds_toArray, List.set_cons_zero, List.set_cons_succ]
              refine take_op 11 (some 40) rfl rfl (by kernel_rfl) (by kernel_rfl) (by kernel_rfl) (fun _ _ _ h => h) (Or.inr ⟨by rfl, rfl⟩) (by assumption) ?_
              try simp only [Act.put, List.setIfInBounds_toArray, List.set_cons_zero, List.set_cons_succ]
              refine take_op 12 (some 41) rfl rfl (by kernel_rfl) (by kernel_rfl) (by kernel_rfl) (fun _ _ _ h => h) (Or.inr ⟨by rfl, rfl⟩) (by assumption) ?_
              try simp only [Act.put, List.setIfInBounds_toArray, List.set_cons_zero, List.set_cons_succ]
              refine take_op 13 (some 42) rfl rfl (by kernel_rfl) (by kernel_rfl) (by kernel_rfl) (fun _ _ _ h => h) (Or.inr ⟨by rfl, rfl⟩) (by assumption) ?_
              try simp only [Act.put, List.setIfInBounds_toArray, List.set_cons_zero, List.set_cons_succ]
              refine take_op 14 (some 43) rfl rfl (by kernel_rfl) (by kernel_rfl) (by kernel_rfl) (fun _ _ _ h => h) (Or.inr ⟨by rfl, rfl⟩) (by assumption) ?_
              try simp only [Act.put, List.setIfInBounds_toArray, List.set_cons_zero, List.set_cons_succ]
              refine take_op 15 (some 44) rfl rfl (by kernel_rfl) (by kernel_rfl) (by kernel_rfl) (fun _ _ _ h => h) (Or.inr ⟨by rfl, rfl⟩) (by assumption) ?_
              try simp only [Act.put, List.setIfInBounds_toArray, List.set_cons_zero, List.set_cons_succ]
              refine take_op 16 (some 45) rfl rfl (by kernel_rfl) (by kernel_rfl) (by kernel_rfl) (fun _ _ _ h => h) (Or.inr ⟨by rfl, rfl⟩) (by assumption) ?_
              try simp only [Act.put, List.setIfInBounds_toArray, List.set_cons_zero, List.set_cons_succ]
              refine take_op 17 (some 46) rfl rfl (by kernel_rfl) (by kernel_rfl) (by kernel_rfl) (fun _ _ _ h => h) (Or.inr ⟨by rfl, rfl⟩) (by assumption) ?_
              try simp only [Act.put, List.setIfInBounds_toArray, List.set_cons_zero, List.set_cons_succ]
              refine take_op 18 (some 47) rfl rfl (by kernel_rfl) (by kernel_rfl) (by kernel_rfl) (fun _ _ _ h => h) (Or.inr ⟨by rfl, rfl⟩) (by assumption) ?_
              try simp only [Act.put, List.setIfInBounds_toArray, List.set_cons_zero, List.set_cons_succ]
              refine take_op 19 (some 48) rfl rfl (by kernel_rfl) (by kernel_rfl) (by kernel_rfl) (fun _ _ _ h => h) (Or.inr ⟨by rfl, rfl⟩) (by assumption) ?_
              try simp only [Act.put, List.setIfInBounds_toArray, List.set_cons_zero, List.set_cons_succ]
              refine take_op 20 (some 49) rfl rfl (by kernel_rfl) (by kernel_rfl) (by kernel_rfl) (fun _ _ _ h => h) (Or.inr ⟨by rfl, rfl⟩) (by assumption) ?_
              try simp only [Act.put, List.setIfInBounds_toArray, List.set_cons_zero, List.set_cons_succ]
              refine take_op 21 (some 50) rfl rfl (by kernel_rfl) (by kernel_rfl) (by kernel_rfl) (fun _ _ _ h => h) (Or.inr ⟨by rfl, rfl⟩) (by assumption) ?_
              try simp only [Act.put, List.setIfInBounds_toArray, List.set_cons_zero, List.set_cons_succ]
              refine take_op 22 (some 51) rfl rfl (by kernel_rfl) (by kernel_rfl) (by kernel_rfl) (fun _ _ _ h => h) (Or.inr ⟨by rfl, rfl⟩) (by assumption) ?_
              try simp only [Act.put, List.setIfInBounds_toArray, List.set_cons_zero, List.set_cons_succ]
              refine take_op 23 (some 52) rfl rfl (by kernel_rfl) (by kernel_rfl) (by kernel_rfl) (fun _ _ _ h => h) (Or.inr ⟨by rfl, rfl⟩) (by assumption) ?_
              try simp only [Act.put, List.setIfInBounds_toArray, List.set_cons_zero, List.set_cons_succ]
              refine take_op 24 (some 53) rfl rfl (by kernel_rfl) (by kernel_rfl) (by kernel_rfl) (fun _ _ _ h => h) (Or.inr ⟨by rfl, rfl⟩) (by assumption) ?_
              try simp only [Act.put, List.setIfInBounds_toArray, List.set_cons_zero, List.set_cons_succ]
              refine take_op 25 (some 54) rfl rfl (by kernel_rfl) (by kernel_rfl) (by kernel_rfl) (fun _ _ _ h => h) (Or.inr ⟨by rfl, rfl⟩) (by assumption) ?_
              try simp only [Act.put, List.setIfInBounds_toArray, List.set_cons_zero, List.set_cons_succ]
              refine take_op 26 (some 55) rfl rfl (by kernel_rfl) (by kernel_rfl) (by kernel_rfl) (fun _ _ _ h => h) (Or.inr ⟨by rfl, rfl⟩) (by assumption) ?_
              try simp only [Act.put, List.setIfInBounds_toArray, List.set_cons_zero, List.set_cons_succ]
              refine take_op 27 (some 56) rfl rfl (by kernel_rfl) (by kernel_rfl) (by kernel_rfl) (fun _ _ _ h => h) (Or.inr ⟨by rfl, rfl⟩) (by assumption) ?_
              try simp only [Act.put, List.setIfInBounds_toArray, List.set_cons_zero, List.set_cons_succ]
              refine take_op 28 (some 57) rfl rfl (by kernel_rfl) (by kernel_rfl) (by kernel_rfl) (fun _ _ _ h => h) (Or.inr ⟨by rfl, rfl⟩) (by assumption) ?_
              try simp only [Act.put, List.setIfInBounds_toArray, List.set_cons_zero, List.set_cons_succ]
              refine take_op 29 (some 58) rfl rfl (by kernel_rfl) (by kernel_rfl) (by kernel_rfl) (fun _ _ _ h => h) (Or.inr ⟨by rfl, rfl⟩) (by assumption) ?_
              try simp only [Act.put, List.setIfInBounds_toArray, List.set_cons_zero, List.set_cons_succ]
              refine take_op 30 (some 59) rfl rfl (by kernel_rfl) (by kernel_rfl) (by kernel_rfl) (fun _ _ _ h => h) (Or.inr ⟨by rfl, rfl⟩) (by assumption) ?_
              try simp only [Act.put, List.setIfInBounds_toArray, List.set_cons_zero, List.set_cons_succ]
              refine take_op 31 (some 60) rfl rfl (by kernel_rfl) (by kernel_rfl) (by kernel_rfl) (fun _ _ _ h => h) (Or.inr ⟨by rfl, rfl⟩) (by assumption) ?_
              try simp only [Act.put, List.setIfInBounds_toArray, List.set_cons_zero, List.set_cons_succ]
              refine take_op 32 (some 61) rfl rfl (by kernel_rfl) (by kernel_rfl) (by kernel_rfl) (fun _ _ _ h => h) (Or.inr ⟨by rfl, rfl⟩) (by assumption) ?_
              try simp only [Act.put, List.setIfInBounds_toArray, List.set_cons_zero, List.set_cons_succ]
              refine take_op 33 (some 62) (v := ?_) rfl rfl (by kernel_rfl) (by kernel_rfl) (by kernel_rfl) (fun _ _ _ h => h) (Or.inl ⟨by rfl, ?_⟩) (by assumption) ?_
              rotate_left
              · intro w_ hSw_; (try dsimp only at hSw_); go_simp; (try with_reducible rfl)
              try simp only [Act.put, List.setIfInBounds_toArray, List.set_cons_zero, List.set_cons_succ]
              refine wpAnyH_done (by kernel_rfl) ?_ _
              clear hHeld
              go_wp2_with fail
              refine wp_region_held_drew (S := fun _ => True) (by kernel_rfl) trivial (fun hHeld => ?_)
              refine take_op 0 (some 65) (v := ?_) rfl rfl (by kernel_rfl) (by kernel_rfl) (by kernel_rfl) (fun _ _ _ h => h) (Or.inl ⟨by rfl, ?_⟩) (by assumption) ?_
              rotate_left
              · intro w_ hSw_; (try dsimp only at hSw_); go_simp; (try with_reducible rfl)
              try simp only [Act.put, List.setIfInBounds_toArray, List.set_cons_zero, List.set_cons_succ]
              refine take_op 1 (some 66) (v := ?_) rfl rfl (by kernel_rfl) (by kernel_rfl) (by kernel_rfl) (fun _ _ _ h => h) (Or.inl ⟨by rfl, ?_⟩) (by assumption) ?_
              rotate_left
              · intro w_ hSw_; (try dsimp only at hSw_); go_simp; (try with_reducible rfl)
              try simp only [Act.put, List.setIfInBounds_toArray, List.set_cons_zero, List.set_cons_succ]
              refine take_op 2 (some 67) (v := ?_) rfl rfl (by kernel_rfl) (by kernel_rfl) (by kernel_rfl) (fun _ _ _ h => h) (Or.inl ⟨by rfl, ?_⟩) (by assumption) ?_
              rotate_left
              · intro w_ hSw_; (try dsimp only at hSw_); go_simp; (try with_reducible rfl)
              try simp only [Act.put, List.setIfInBounds_toArray, List.set_cons_zero, List.set_cons_succ]
              refine take_op 3 (some 68) (v := ?_) rfl rfl (by kernel_rfl) (by kernel_rfl) (by kernel_rfl) (fun _ _ _ h => h) (Or.inl ⟨by rfl, ?_⟩) (by assumption) ?_
              rotate_left
              · intro w_ hSw_; (try dsimp only at hSw_); go_simp; (try with_reducible rfl)
              try simp only [Act.put, List.setIfInBounds_toArray, List.set_cons_zero, List.set_cons_succ]
              refine take_op 4 (some 69) (v := ?_) rfl rfl (by kernel_rfl) (by kernel_rfl) (by kernel_rfl) (fun _ _ _ h => h) (Or.inl ⟨by rfl, ?_⟩) (by assumption) ?_
              rotate_left
              · intro w_ hSw_; (try dsimp only at hSw_); go_simp; (try with_reducible rfl)
              try simp only [Act.put, List.setIfInBounds_toArray, List.set_cons_zero, List.set_cons_succ]
              refine take_op 5 (some 70) rfl rfl (by kernel_rfl) (by kernel_rfl) (by kernel_rfl) (fun _ _ _ h => h) (Or.inr ⟨by rfl, rfl⟩) (by assumption) ?_
              try simp only [Act.put, List.setIfInBounds_toArray, List.set_cons_zero, List.set_cons_succ]
              refine take_op 6 (some 71) rfl rfl (by kernel_rfl) (by kernel_rfl) (by kernel_rfl) (fun _ _ _ h => h) (Or.inr ⟨by rfl, rfl⟩) (by assumption) ?_
              try simp only [Act.put, List.setIfInBounds_toArray, List.set_cons_zero, List.set_cons_succ]
              refine take_op 7 (some 72) rfl rfl (by kernel_rfl) (by kernel_rfl) (by kernel_rfl) (fun _ _ _ h => h) (Or.inr ⟨by rfl, rfl⟩) (by assumption) ?_
              try simp only [Act.put, List.setIfInBounds_toArray, List.set_cons_zero, List.set_cons_succ]
              refine take_op 8 (some 73) rfl rfl (by kernel_rfl) (by kernel_rfl) (by kernel_rfl) (fun _ _ _ h => h) (Or.inr ⟨by rfl, rfl⟩) (by assumption) ?_
              try simp only [Act.put, List.setIfInBounds_toArray, List.set_cons_zero, List.set_cons_succ]
              refine take_op 9 (some 74) rfl rfl (by kernel_rfl) (by kernel_rfl) (by kernel_rfl) (fun _ _ _ h => h) (Or.inr ⟨by rfl, rfl⟩) (by assumption) ?_
              try simp only [Act.put, List.setIfInBounds_toArray, List.set_cons_zero, List.set_cons_succ]
              refine take_op 10 (some 75) rfl rfl (by kernel_rfl) (by kernel_rfl) (by kernel_rfl) (fun _ _ _ h => h) (Or.inr ⟨by rfl, rfl⟩) (by assumption) ?_
              try simp only [Act.put, List.setIfInBounds_toArray, List.set_cons_zero, List.set_cons_succ]
              refine take_op 11 (some 76) rfl rfl (by kernel_rfl) (by kernel_rfl) (by kernel_rfl) (fun _ _ _ h => h) (Or.inr ⟨by rfl, rfl⟩) (by assumption) ?_
              try simp only [Act.put, List.setIfInBounds_toArray, List.set_cons_zero, List.set_cons_succ]
              refine take_op 12 (some 77) rfl rfl (by kernel_rfl) (by kernel_rfl) (by kernel_rfl) (fun _ _ _ h => h) (Or.inr ⟨by rfl, rfl⟩) (by assumption) ?_
              try simp only [Act.put, List.setIfInBounds_toArray, List.set_cons_zero, List.set_cons_succ]
              refine take_op 13 (some 78) (v := ?_) rfl rfl (by kernel_rfl) (by kernel_rfl) (by kernel_rfl) (fun _ _ _ h => h) (Or.inl ⟨by rfl, ?_⟩) (by assumption) ?_
              rotate_left
              · intro w_ hSw_; (try dsimp only at hSw_); go_simp; (try with_reducible rfl)
              try simp only [Act.put, List.setIfInBounds_toArray, List.set_cons_zero, List.set_cons_succ]
              refine take_op 14 (some 79) (v := ?_) rfl rfl (by kernel_rfl) (by kernel_rfl) (by kernel_rfl) (fun _ _ _ h => h) (Or.inl ⟨by rfl, ?_⟩) (by assumption) ?_
              rotate_left
              · intro w_ hSw_; (try dsimp only at hSw_); go_simp; (try with_reducible rfl)
              try simp only [Act.put, List.setIfInBounds_toArray, List.set_cons_zero, List.set_cons_succ]
              refine take_op 15 (some 80) rfl rfl (by kernel_rfl) (by kernel_rfl) (by kernel_rfl) (fun _ _ _ h => h) (Or.inr ⟨by rfl, rfl⟩) (by assumption) ?_
              try simp only [Act.put, List.setIfInBounds_toArray, List.set_cons_zero, List.set_cons_succ]
              refine take_op 16 (some 81) rfl rfl (by kernel_rfl) (by kernel_rfl) (by kernel_rfl) (fun _ _ _ h => h) (Or.inr ⟨by rfl, rfl⟩) (by assumption) ?_
              try simp only [Act.put, List.setIfInBounds_toArray, List.set_cons_zero, List.set_cons_succ]
              refine take_op 17 (some 82) rfl rfl (by kernel_rfl) (by kernel_rfl) (by kernel_rfl) (fun _ _ _ h => h) (Or.inr ⟨by rfl, rfl⟩) (by assumption) ?_
              try simp only [Act.put, List.setIfInBounds_toArray, List.set_cons_zero, List.set_cons_succ]
              refine take_op 18 (some 83) rfl rfl (by kernel_rfl) (by kernel_rfl) (by kernel_rfl) (fun _ _ _ h => h) (Or.inr ⟨by rfl, rfl⟩) (by assumption) ?_
              try simp only [Act.put, List.setIfInBounds_toArray, List.set_cons_zero, List.set_cons_succ]
              refine take_op 19 (some 84) rfl rfl (by kernel_rfl) (by kernel_rfl) (by kernel_rfl) (fun _ _ _ h => h) (Or.inr ⟨by rfl, rfl⟩) (by assumption) ?_
              try simp only [Act.put, List.setIfInBounds_toArray, List.set_cons_zero, List.set_cons_succ]
              refine take_op 20 (some 85) rfl rfl (by kernel_rfl) (by kernel_rfl) (by kernel_rfl) (fun _ _ _ h => h) (Or.inr ⟨by rfl, rfl⟩) (by assumption) ?_
              try simp only [Act.put, List.setIfInBounds_toArray, List.set_cons_zero, List.set_cons_succ]
              refine take_op 21 (some 86) rfl rfl (by kernel_rfl) (by kernel_rfl) (by kernel_rfl) (fun _ _ _ h => h) (Or.inr ⟨by rfl, rfl⟩) (by assumption) ?_
              try simp only [Act.put, List.setIfInBounds_toArray, List.set_cons_zero, List.set_cons_succ]
              refine take_op 22 (some 87) rfl rfl (by kernel_rfl) (by kernel_rfl) (by kernel_rfl) (fun _ _ _ h => h) (Or.inr ⟨by rfl, rfl⟩) (by assumption) ?_
              try simp only [Act.put, List.setIfInBounds_toArray, List.set_cons_zero, List.set_cons_succ]
              refine take_op 23 (some 88) (v := ?_) rfl rfl (by kernel_rfl) (by kernel_rfl) (by kernel_rfl) (fun _ _ _ h => h) (Or.inl ⟨by rfl, ?_⟩) (by assumption) ?_
              rotate_left
              · intro w_ hSw_; (try dsimp only at hSw_); go_simp; (try with_reducible rfl)
              try simp only [Act.put, List.setIfInBounds_toArray, List.set_cons_zero, List.set_cons_succ]
              refine wpAnyH_done (by kernel_rfl) ?_ _
              clear hHeld
              have hD : Below wi.heap.size wi wi.drew.drew := (Below.refl _ wi).drew.drew
              have HBI9 := Lib.hid (HBI.out.trans (hD.mono HBI.out.size))
              have X09 := Lib.hid ((hD.cell (p := ⟨bx, 0, none⟩) HBX.out).trans X0.out)
              have X19 := Lib.hid ((hD.cell (p := ⟨bx, 1, none⟩) HBX.out).trans X1.out)
              have X29 := Lib.hid ((hD.cell (p := ⟨bx, 2, none⟩) HBX.out).trans X2.out)
              have HBX9 : Hid (bx < wi.drew.drew.heap.size) := Lib.hid (Nat.lt_of_lt_of_le HBX.out hD.size)
              have HOWI9 := Lib.hid (owns_below HOWI.out hD (Nat.le_refl _))
              have SRC19 := Lib.hid (SRC1.out.below hD)
              have SRC29 := Lib.hid (SRC2.out.below hD)
              clear hD HBI X0 X1 X2 HBX HOWI SRC1 HBW SRC2
              revert HBI9 X09 X19 X29 HBX9 HOWI9 SRC19 SRC29
              generalize wi.drew.drew = wi
              intro HBI X0 X1 X2 HBX HOWI SRC1 SRC2
              go_wp2_with fail
              refine wp_region_held_drew (S := fun w' => Below wi.heap.size wi w') (by kernel_rfl) (Below.refl _ wi).drew (fun hHeld => ?_)
              refine take_op 1 (some 90) (v := ?_) rfl rfl (by kernel_rfl) (by kernel_rfl) (by kernel_rfl) (fun _ _ _ h => h) (Or.inl ⟨by rfl, ?_⟩) (by assumption) ?_
              rotate_left
              · intro w_ hSw_; (try dsimp only at hSw_); go_simp; (try with_reducible rfl)
              try simp only [Act.put, List.setIfInBounds_toArray, List.set_cons_zero, List.set_cons_succ]
              refine take_op 2 (some 91) (v := ?_) rfl rfl (by kernel_rfl) (by kernel_rfl) (by kernel_rfl) (fun _ _ _ h => h) (Or.inl ⟨by rfl, ?_⟩) (by assumption) ?_
              rotate_left
              · intro w_ hSw_; (try dsimp only at hSw_); go_simp; (try with_reducible rfl)
              try simp only [Act.put, List.setIfInBounds_toArray, List.set_cons_zero, List.set_cons_succ]
              refine take_op 3 (some 92) (v := ?_) rfl rfl (by kernel_rfl) (by kernel_rfl) (by kernel_rfl) (fun _ _ _ h => h) (Or.inl ⟨by rfl, ?_⟩) (by assumption) ?_
              rotate_left
              · intro w_ hSw_; (try dsimp only at hSw_); go_simp; (try with_reducible rfl)
              try simp only [Act.put, List.setIfInBounds_toArray, List.set_cons_zero, List.set_cons_succ]
              refine take_op 5 (some 94) (v := .agg #[.int .i64 x1, .int .i64 x2, .int .i64 x3]) rfl rfl (by kernel_rfl) (by kernel_rfl) (by kernel_rfl) (fun _ _ _ h => h) (Or.inl ⟨by rfl, ?_⟩) (by assumption) ?_
              · intro w_ hSw_
                have c0 := (hSw_.cell (p := ⟨bx, 0, none⟩) HBX.out).trans X0.out
                have c1 := (hSw_.cell (p := ⟨bx, 1, none⟩) HBX.out).trans X1.out
                have c2 := (hSw_.cell (p := ⟨bx, 2, none⟩) HBX.out).trans X2.out
                go_simp
                try rfl
              try simp only [Act.put, List.setIfInBounds_toArray, List.set_cons_zero, List.set_cons_succ]
              refine take_op 8 (some 97) (v := ?_) rfl rfl (by kernel_rfl) (by kernel_rfl) (by kernel_rfl) (fun _ _ _ h => h) (Or.inl ⟨by rfl, ?_⟩) (by assumption) ?_
              rotate_left
              · intro w_ hSw_; (try dsimp only at hSw_); go_simp; (try with_reducible rfl)
              try simp only [Act.put, List.setIfInBounds_toArray, List.set_cons_zero, List.set_cons_succ]
              refine take_op 9 (some 98) (v := ?_) rfl rfl (by kernel_rfl) (by kernel_rfl) (by kernel_rfl) (fun _ _ _ h => h) (Or.inl ⟨by rfl, ?_⟩) (by assumption) ?_
              rotate_left
              · intro w_ hSw_; (try dsimp only at hSw_); go_simp; (try with_reducible rfl)
              try simp only [Act.put, List.setIfInBounds_toArray, List.set_cons_zero, List.set_cons_succ]
              refine take_op 10 (some 99) (v := ?_) rfl rfl (by kernel_rfl) (by kernel_rfl) (by kernel_rfl) (fun _ _ _ h => h) (Or.inl ⟨by rfl, ?_⟩) (by assumption) ?_
              rotate_left
              · intro w_ hSw_; (try dsimp only at hSw_); go_simp; (try with_reducible rfl)
              try simp only [Act.put, List.setIfInBounds_toArray, List.set_cons_zero, List.set_cons_succ]
              refine wpAnyH_tab (fun w' => Below wi.heap.size wi w') [0, 4, 6] 3 [(0, 89, .newr wi.heap.size #[] 59), (4, 93, .ownk wi.heap.size 59 3 k ((out.take k).flatMap encE)), (6, 95, .rowk 1 #[.int .i64 x1, .int .i64 x2, .int .i64 x3] 59)] rfl rfl (by kernel_rfl) (fun _ h => h) (fun w1 w2 h hb => h.trans (hb.mono h.size)) hHeld ?_ ?_
              · skip
                refine InvSteps.cons rfl (fun xs_ wv hSv hr_ A_ hA_ K_ hK_ => ?_) ?_
                · skip
                  simp only [putAll, List.foldl, List.map, Act.put, List.setIfInBounds_toArray, List.set_cons_zero, List.set_cons_succ] at hA_
                  subst hA_
                  go_simp
                  exact hK_.out _ _ _ rfl ⟨_, rfl, hSv.size, Blk.new _ _ _⟩ ((Below.refl _ _).alloc (Nat.le_refl _) _)
                refine InvSteps.cons rfl (fun xs_ wv hSv hr_ A_ hA_ K_ hK_ => ?_) ?_
                · skip
                  obtain ⟨b0, e0, N0, B0⟩ := hr_ 0 (by kernel_rfl)
                  simp only [e0, putAll, List.foldl, List.map, Act.put, List.setIfInBounds_toArray, List.set_cons_zero, List.set_cons_succ] at hA_
                  subst hA_
                  refine step_appRowsFresh sl_rent rent_info rfl (by decide) encE_len encE_one (by decide) rfl rfl rfl b0 wi.heap.size N0 B0 (out.take k) (some ⟨g, 0, none⟩) k k (by rw [List.length_take, ← HMO.out]; try omega) (SRC1.out.below hSv) (by have := HLE.out; omega) rfl rfl ?_
                  intro v' w' hown hb
                  exact hK_.out _ _ _ rfl hown hb
                refine InvSteps.cons rfl (fun xs_ wv hSv hr_ A_ hA_ K_ hK_ => ?_) ?_
                · skip
                  simp only [putAll, List.foldl, List.map, Act.put, List.setIfInBounds_toArray, List.set_cons_zero, List.set_cons_succ] at hA_
                  subst hA_
                  go_simp
                  exact hK_.out _ _ _ rfl ⟨_, rfl, Blk.new _ _ _⟩ ((Below.refl _ _).alloc (Nat.le_refl _) _)
                exact InvSteps.nil
              intro xs_ wv hSv hr_ A_ hA_
              have O4 : wv.ownsRow wi.heap.size 59 3 (xs_ 4) k ((out.take k).flatMap encE) := hr_ 4
              obtain ⟨b0, e0, N0, B0⟩ := hr_ 0
              obtain ⟨b6, e6, B6⟩ := hr_ 6
              simp only [e0, e6, putAll, List.foldl, List.map, Act.put, List.setIfInBounds_toArray, List.set_cons_zero, List.set_cons_succ] at hA_
              subst hA_
              clear hr_ e0 B0 N0 e6
              generalize xs_ 4 = v4 at O4
              refine go_op 7 rfl (by kernel_rfl) (fun K_ hK_ => ?_)
              refine step_appRows sl_rent rent_info rfl (by decide) encE_len encE_one (by decide) rfl rfl rfl wi.heap.size v4 k (out.take k) [(x1, x2, x3)] (some ⟨b6, 0, none⟩) 1 1 rfl O4 (SrcAt.one B6 rfl) (by have := HLE.out; omega) hSv.size rfl rfl ?_
              intro v7 w8 o7 g7 hv7
              have hb8 := hSv.trans (below_grown g7 hSv.size (fun k hk => owns_block O4 k hk))
              try simp only [Act.put, List.setIfInBounds_toArray, List.set_cons_zero, List.set_cons_succ]
              refine hK_.out _ _ hb8 (fun hHeld_ => ?_)
              refine go_op 11 rfl (by kernel_rfl) (fun K_ hK_ => ?_)
              refine step_appRows sl_rent rent_info rfl (by decide) encE_len encE_one (by decide) rfl rfl rfl wi.heap.size v7 (k + 1) (out.take k ++ [(x1, x2, x3)]) (out.drop k) (some ⟨g, 0, none⟩) 0 0 (by rw [List.length_drop, ← HMO.out]; try omega) o7 (SRC2.out.below hb8) (by have := HLE.out; omega) hb8.size rfl rfl ?_
              intro v8 w9 o8 g8 hv8
              have hb9 := hb8.trans (below_grown g8 hb8.size (fun k hk => owns_block o7 k hk))
              try simp only [Act.put, List.setIfInBounds_toArray, List.set_cons_zero, List.set_cons_succ]
              refine hK_.out _ _ hb9 (fun hHeld_ => ?_)
              refine take_op 12 (some 6) (v := ?_) rfl rfl (by kernel_rfl) (by kernel_rfl) (by kernel_rfl) (fun _ _ _ h => h) (Or.inl ⟨by rfl, ?_⟩) (by assumption) ?_
              rotate_left
              · intro w_ hSw_; (try dsimp only at hSw_); go_simp; (try with_reducible rfl)
              try simp only [Act.put, List.setIfInBounds_toArray, List.set_cons_zero, List.set_cons_succ]
              refine wpAnyH_done (by kernel_rfl) ?_ _
              have hins := HSORT.out.ins (x := (x1, x2, x3)) (k := k) HLT.out HGE.out
              have hlen : (out.take k ++ [(x1, x2, x3)] ++ out.drop k).length = k + 1 + 0 := by rw [List.length_append, List.length_append, List.length_take, List.length_drop, ← HMO.out, List.length_singleton]; try omega
              have HB9 := Lib.hid hb9
              have hO9 : w9.ownsRow w6.heap.size 59 3 v8 (out.take k ++ [(x1, x2, x3)] ++ out.drop k).length ((out.take k ++ [(x1, x2, x3)] ++ out.drop k).flatMap encE) := by rw [hlen]; exact owns_rebase o8 HBI.out.size
              have HO9 := Lib.hid hO9
              have hsum9 : addL (fun _ => none) (all.take (i + 1)) = some (updK M (x1, x2) x3) := by
                rw [HST.out, addL_snoc HSUM.out]
                have h0 : M (keyE (x1, x2, x3)) = none := hins.1
                rw [h0]
                show (if in64 (0 + x3) then some (updK M (x1, x2) (0 + x3)) else none) = _
                rw [Int.zero_add, if_pos HX3.out]
              have HSUM9 := Lib.hid hsum9
              have HIN9 := Lib.hid hins.2
              have HLEN9 := Lib.hid hlen
              clear hHeld hHeld_ o7 o8 g7 g8 hv7 hv8 hb8 hb9 hO9 hsum9 hins hlen O4 B6 hSv
              go_wp2_with fail
              go_roundw
              case rel => exact ⟨i + 1, _, _, v8, by omega, by go_num, rfl, rfl, rfl, HSUM9.out, HIN9.out, (by rw [HLEN9.out]; have := HLE.out; have := HMO.out; omega), HO9.out, HBI.out.trans (HB9.out.mono HBI.out.size)⟩
              case measure => simp [intOf]; omega
            · have SRC2 : Hid (SrcAt encE 3 wi (some ⟨g, k * 3, none⟩) (out.drop k)) := Lib.hid (by rw [SRCD.out]; exact fun h => by simp at h)
              go_wp2_with fail
              refine wp_region_held_drew (S := fun _ => True) (by kernel_rfl) trivial (fun hHeld => ?_)
              refine take_op 0 (some 29) (v := ?_) rfl rfl (by kernel_rfl) (by kernel_rfl) (by kernel_rfl) (fun _ _ _ h => h) (Or.inl ⟨by rfl, ?_⟩) (by assumption) ?_
              rotate_left
              · intro w_ hSw_; (try dsimp only at hSw_); go_simp; (try with_reducible rfl)
              try simp only [Act.put, List.setIfInBounds_toArray, List.set_cons_zero, List.set_cons_succ]
              refine take_op 1 (some 30) (v := ?_) rfl rfl (by kernel_rfl) (by kernel_rfl) (by kernel_rfl) (fun _ _ _ h => h) (Or.inl ⟨by rfl, ?_⟩) (by assumption) ?_
              rotate_left
              · intro w_ hSw_; (try dsimp only at hSw_); go_simp; (try with_reducible rfl)
              try simp only [Act.put, List.setIfInBounds_toArray, List.set_cons_zero, List.set_cons_succ]
              refine take_op 2 (some 31) (v := ?_) rfl rfl (by kernel_rfl) (by kernel_rfl) (by kernel_rfl) (fun _ _ _ h => h) (Or.inl ⟨by rfl, ?_⟩) (by assumption) ?_
              rotate_left
              · intro w_ hSw_; (try dsimp only at hSw_); go_simp; (try with_reducible rfl)
              try simp only [Act.put, List.setIfInBounds_toArray, List.set_cons_zero, List.set_cons_succ]
              refine take_op 3 (some 32) (v := ?_) rfl rfl (by kernel_rfl) (by kernel_rfl) (by kernel_rfl) (fun _ _ _ h => h) (Or.inl ⟨by rfl, ?_⟩) (by assumption) ?_
              rotate_left
              · intro w_ hSw_; (try dsimp only at hSw_); go_simp; (try with_reducible rfl)
              try simp only [Act.put, List.setIfInBounds_toArray, List.set_cons_zero, List.set_cons_succ]
              refine take_op 4 (some 33) (v := ?_) rfl rfl (by kernel_rfl) (by kernel_rfl) (by kernel_rfl) (fun _ _ _ h => h) (Or.inl ⟨by rfl, ?_⟩) (by assumption) ?_
              rotate_left
              · intro w_ hSw_; (try dsimp only at hSw_); go_simp; (try with_reducible rfl)
              try simp only [Act.put, List.setIfInBounds_toArray, List.set_cons_zero, List.set_cons_succ]
              refine take_op 5 (some 34) rfl rfl (by kernel_rfl) (by kernel_rfl) (by kernel_rfl) (fun _ _ _ h => h) (Or.inr ⟨by rfl, rfl⟩) (by assumption) ?_
              try simp only [Act.put, List.setIfInBounds_toArray, List.set_cons_zero, List.set_cons_succ]
              refine take_op 6 (some 35) rfl rfl (by kernel_rfl) (by kernel_rfl) (by kernel_rfl) (fun _ _ _ h => h) (Or.inr ⟨by rfl, rfl⟩) (by assumption) ?_
              try simp only [Act.put, List.setIfInBounds_toArray, List.set_cons_zero, List.set_cons_succ]
              refine take_op 7 (some 36) rfl rfl (by kernel_rfl) (by kernel_rfl) (by kernel_rfl) (fun _ _ _ h => h) (Or.inr ⟨by rfl, rfl⟩) (by assumption) ?_
              try simp only [Act.put, List.setIfInBounds_toArray, List.set_cons_zero, List.set_cons_succ]
              refine take_op 8 (some 37) rfl rfl (by kernel_rfl) (by kernel_rfl) (by kernel_rfl) (fun _ _ _ h => h) (Or.inr ⟨by rfl, rfl⟩) (by assumption) ?_
              try simp only [Act.put, List.setIfInBounds_toArray, List.set_cons_zero, List.set_cons_succ]
              refine take_op 9 (some 38) rfl rfl (by kernel_rfl) (by kernel_rfl) (by kernel_rfl) (fun _ _ _ h => h) (Or.inr ⟨by rfl, rfl⟩) (by assumption) ?_
              try simp only [Act.put, List.setIfInBounds_toArray, List.set_cons_zero, List.set_cons_succ]
              refine take_op 10 (some 39) rfl rfl (by kernel_rfl) (by kernel_rfl) (by kernel_rfl) (fun _ _ _ h => h) (Or.inr ⟨by rfl, rfl⟩) (by assumption) ?_
              try simp only [Act.put, List.setIfInBounds_toArray, List.set_cons_zero, List.set_cons_succ]
              refine take_op 11 (some 40) rfl rfl (by kernel_rfl) (by kernel_rfl) (by kernel_rfl) (fun _ _ _ h => h) (Or.inr ⟨by rfl, rfl⟩) (by assumption) ?_
              try simp only [Act.put, List.setIfInBounds_toArray, List.set_cons_zero, List.set_cons_succ]
              refine take_op 12 (some 41) rfl rfl (by kernel_rfl) (by kernel_rfl) (by kernel_rfl) (fun _ _ _ h => h) (Or.inr ⟨by rfl, rfl⟩) (by assumption) ?_
              try simp only [Act.put, List.setIfInBounds_toArray, List.set_cons_zero, List.set_cons_succ]
              refine take_op 13 (some 42) rfl rfl (by kernel_rfl) (by kernel_rfl) (by kernel_rfl) (fun _ _ _ h => h) (Or.inr ⟨by rfl, rfl⟩) (by assumption) ?_
              try simp only [Act.put, List.setIfInBounds_toArray, List.set_cons_zero, List.set_cons_succ]
              refine take_op 14 (some 43) rfl rfl (by kernel_rfl) (by kernel_rfl) (by kernel_rfl) (fun _ _ _ h => h) (Or.inr ⟨by rfl, rfl⟩) (by assumption) ?_
              try simp only [Act.put, List.setIfInBounds_toArray, List.set_cons_zero, List.set_cons_succ]
              refine take_op 15 (some 44) rfl rfl (by kernel_rfl) (by kernel_rfl) (by kernel_rfl) (fun _ _ _ h => h) (Or.inr ⟨by rfl, rfl⟩) (by assumption) ?_
              try simp only [Act.put, List.setIfInBounds_toArray, List.set_cons_zero, List.set_cons_succ]
              refine take_op 16 (some 45) rfl rfl (by kernel_rfl) (by kernel_rfl) (by kernel_rfl) (fun _ _ _ h => h) (Or.inr ⟨by rfl, rfl⟩) (by assumption) ?_
              try simp only [Act.put, List.setIfInBounds_toArray, List.set_cons_zero, List.set_cons_succ]
              refine take_op 17 (some 46) rfl rfl (by kernel_rfl) (by kernel_rfl) (by kernel_rfl) (fun _ _ _ h => h) (Or.inr ⟨by rfl, rfl⟩) (by assumption) ?_
              try simp only [Act.put, List.setIfInBounds_toArray, List.set_cons_zero, List.set_cons_succ]
              refine take_op 18 (some 47) rfl rfl (by kernel_rfl) (by kernel_rfl) (by kernel_rfl) (fun _ _ _ h => h) (Or.inr ⟨by rfl, rfl⟩) (by assumption) ?_
              try simp only [Act.put, List.setIfInBounds_toArray, List.set_cons_zero, List.set_cons_succ]
              refine take_op 19 (some 48) rfl rfl (by kernel_rfl) (by kernel_rfl) (by kernel_rfl) (fun _ _ _ h => h) (Or.inr ⟨by rfl, rfl⟩) (by assumption) ?_
              try simp only [Act.put, List.setIfInBounds_toArray, List.set_cons_zero, List.set_cons_succ]
              refine take_op 20 (some 49) rfl rfl (by kernel_rfl) (by kernel_rfl) (by kernel_rfl) (fun _ _ _ h => h) (Or.inr ⟨by rfl, rfl⟩) (by assumption) ?_
              try simp only [Act.put, List.setIfInBounds_toArray, List.set_cons_zero, List.set_cons_succ]
              refine take_op 21 (some 50) rfl rfl (by kernel_rfl) (by kernel_rfl) (by kernel_rfl) (fun _ _ _ h => h) (Or.inr ⟨by rfl, rfl⟩) (by assumption) ?_
              try simp only [Act.put, List.setIfInBounds_toArray, List.set_cons_zero, List.set_cons_succ]
              refine take_op 22 (some 51) rfl rfl (by kernel_rfl) (by kernel_rfl) (by kernel_rfl) (fun _ _ _ h => h) (Or.inr ⟨by rfl, rfl⟩) (by assumption) ?_
              try simp only [Act.put, List.setIfInBounds_toArray, List.set_cons_zero, List.set_cons_succ]
              refine take_op 23 (some 52) rfl rfl (by kernel_rfl) (by kernel_rfl) (by kernel_rfl) (fun _ _ _ h => h) (Or.inr ⟨by rfl, rfl⟩) (by assumption) ?_
              try simp only [Act.put, List.setIfInBounds_toArray, List.set_cons_zero, List.set_cons_succ]
              refine take_op 24 (some 53) rfl rfl (by kernel_rfl) (by kernel_rfl) (by kernel_rfl) (fun _ _ _ h => h) (Or.inr ⟨by rfl, rfl⟩) (by assumption) ?_
              try simp only [Act.put, List.setIfInBounds_toArray, List.set_cons_zero, List.set_cons_succ]
              refine take_op 25 (some 54) rfl rfl (by kernel_rfl) (by kernel_rfl) (by kernel_rfl) (fun _ _ _ h => h) (Or.inr ⟨by rfl, rfl⟩) (by assumption) ?_
              try simp only [Act.put, List.setIfInBounds_toArray, List.set_cons_zero, List.set_cons_succ]
              refine take_op 26 (some 55) rfl rfl (by kernel_rfl) (by kernel_rfl) (by kernel_rfl) (fun _ _ _ h => h) (Or.inr ⟨by rfl, rfl⟩) (by assumption) ?_
              try simp only [Act.put, List.setIfInBounds_toArray, List.set_cons_zero, List.set_cons_succ]
              refine take_op 27 (some 56) rfl rfl (by kernel_rfl) (by kernel_rfl) (by kernel_rfl) (fun _ _ _ h => h) (Or.inr ⟨by rfl, rfl⟩) (by assumption) ?_
              try simp only [Act.put, List.setIfInBounds_toArray, List.set_cons_zero, List.set_cons_succ]
              refine take_op 28 (some 57) rfl rfl (by kernel_rfl) (by kernel_rfl) (by kernel_rfl) (fun _ _ _ h => h) (Or.inr ⟨by rfl, rfl⟩) (by assumption) ?_
              try simp only [Act.put, List.setIfInBounds_toArray, List.set_cons_zero, List.set_cons_succ]
              refine take_op 29 (some 58) rfl rfl (by kernel_rfl) (by kernel_rfl) (by kernel_rfl) (fun _ _ _ h => h) (Or.inr ⟨by rfl, rfl⟩) (by assumption) ?_
              try simp only [Act.put, List.setIfInBounds_toArray, List.set_cons_zero, List.set_cons_succ]
              refine take_op 30 (some 59) rfl rfl (by kernel_rfl) (by kernel_rfl) (by kernel_rfl) (fun _ _ _ h => h) (Or.inr ⟨by rfl, rfl⟩) (by assumption) ?_
              try simp only [Act.put, List.setIfInBounds_toArray, List.set_cons_zero, List.set_cons_succ]
              refine take_op 31 (some 60) rfl rfl (by kernel_rfl) (by kernel_rfl) (by kernel_rfl) (fun _ _ _ h => h) (Or.inr ⟨by rfl, rfl⟩) (by assumption) ?_
              try simp only [Act.put, List.setIfInBounds_toArray, List.set_cons_zero, List.set_cons_succ]
              refine take_op 32 (some 61) rfl rfl (by kernel_rfl) (by kernel_rfl) (by kernel_rfl) (fun _ _ _ h => h) (Or.inr ⟨by rfl, rfl⟩) (by assumption) ?_
              try simp only [Act.put, List.setIfInBounds_toArray, List.set_cons_zero, List.set_cons_succ]
              refine take_op 33 (some 62) (v := ?_) rfl rfl (by kernel_rfl) (by kernel_rfl) (by kernel_rfl) (fun _ _ _ h => h) (Or.inl ⟨by rfl, ?_⟩) (by assumption) ?_
              rotate_left
              · intro w_ hSw_; (try dsimp only at hSw_); go_simp; (try with_reducible rfl)
              try simp only [Act.put, List.setIfInBounds_toArray, List.set_cons_zero, List.set_cons_succ]
              refine wpAnyH_done (by kernel_rfl) ?_ _
              clear hHeld
              go_wp2_with fail
              refine wp_region_held_drew (S := fun _ => True) (by kernel_rfl) trivial (fun hHeld => ?_)
              refine take_op 0 (some 65) (v := ?_) rfl rfl (by kernel_rfl) (by kernel_rfl) (by kernel_rfl) (fun _ _ _ h => h) (Or.inl ⟨by rfl, ?_⟩) (by assumption) ?_
              rotate_left
              · intro w_ hSw_; (try dsimp only at hSw_); go_simp; (try with_reducible rfl)
              try simp only [Act.put, List.setIfInBounds_toArray, List.set_cons_zero, List.set_cons_succ]
              refine take_op 1 (some 66) (v := ?_) rfl rfl (by kernel_rfl) (by kernel_rfl) (by kernel_rfl) (fun _ _ _ h => h) (Or.inl ⟨by rfl, ?_⟩) (by assumption) ?_
              rotate_left
              · intro w_ hSw_; (try dsimp only at hSw_); go_simp; (try with_reducible rfl)
              try simp only [Act.put, List.setIfInBounds_toArray, List.set_cons_zero, List.set_cons_succ]
              refine take_op 2 (some 67) (v := ?_) rfl rfl (by kernel_rfl) (by kernel_rfl) (by kernel_rfl) (fun _ _ _ h => h) (Or.inl ⟨by rfl, ?_⟩) (by assumption) ?_
              rotate_left
              · intro w_ hSw_; (try dsimp only at hSw_); go_simp; (try with_reducible rfl)
              try simp only [Act.put, List.setIfInBounds_toArray, List.set_cons_zero, List.set_cons_succ]
              refine take_op 3 (some 68) (v := ?_) rfl rfl (by kernel_rfl) (by kernel_rfl) (by kernel_rfl) (fun _ _ _ h => h) (Or.inl ⟨by rfl, ?_⟩) (by assumption) ?_
              rotate_left
              · intro w_ hSw_; (try dsimp only at hSw_); go_simp; (try with_reducible rfl)
              try simp only [Act.put, List.setIfInBounds_toArray, List.set_cons_zero, List.set_cons_succ]
              refine take_op 4 (some 69) (v := ?_) rfl rfl (by kernel_rfl) (by kernel_rfl) (by kernel_rfl) (fun _ _ _ h => h) (Or.inl ⟨by rfl, ?_⟩) (by assumption) ?_
              rotate_left
              · intro w_ hSw_; (try dsimp only at hSw_); go_simp; (try with_reducible rfl)
              try simp only [Act.put, List.setIfInBounds_toArray, List.set_cons_zero, List.set_cons_succ]
              refine take_op 5 (some 70) rfl rfl (by kernel_rfl) (by kernel_rfl) (by kernel_rfl) (fun _ _ _ h => h) (Or.inr ⟨by rfl, rfl⟩) (by assumption) ?_
              try simp only [Act.put, List.setIfInBounds_toArray, List.set_cons_zero, List.set_cons_succ]
              refine take_op 6 (some 71) rfl rfl (by kernel_rfl) (by kernel_rfl) (by kernel_rfl) (fun _ _ _ h => h) (Or.inr ⟨by rfl, rfl⟩) (by assumption) ?_
              try simp only [Act.put, List.setIfInBounds_toArray, List.set_cons_zero, List.set_cons_succ]
              refine take_op 7 (some 72) rfl rfl (by kernel_rfl) (by kernel_rfl) (by kernel_rfl) (fun _ _ _ h => h) (Or.inr ⟨by rfl, rfl⟩) (by assumption) ?_
              try simp only [Act.put, List.setIfInBounds_toArray, List.set_cons_zero, List.set_cons_succ]
              refine take_op 8 (some 73) rfl rfl (by kernel_rfl) (by kernel_rfl) (by kernel_rfl) (fun _ _ _ h => h) (Or.inr ⟨by rfl, rfl⟩) (by assumption) ?_
              try simp only [Act.put, List.setIfInBounds_toArray, List.set_cons_zero, List.set_cons_succ]
              refine take_op 9 (some 74) rfl rfl (by kernel_rfl) (by kernel_rfl) (by kernel_rfl) (fun _ _ _ h => h) (Or.inr ⟨by rfl, rfl⟩) (by assumption) ?_
              try simp only [Act.put, List.setIfInBounds_toArray, List.set_cons_zero, List.set_cons_succ]
              refine take_op 10 (some 75) rfl rfl (by kernel_rfl) (by kernel_rfl) (by kernel_rfl) (fun _ _ _ h => h) (Or.inr ⟨by rfl, rfl⟩) (by assumption) ?_
              try simp only [Act.put, List.setIfInBounds_toArray, List.set_cons_zero, List.set_cons_succ]
              refine take_op 11 (some 76) rfl rfl (by kernel_rfl) (by kernel_rfl) (by kernel_rfl) (fun _ _ _ h => h) (Or.inr ⟨by rfl, rfl⟩) (by assumption) ?_
              try simp only [Act.put, List.setIfInBounds_toArray, List.set_cons_zero, List.set_cons_succ]
              refine take_op 12 (some 77) rfl rfl (by kernel_rfl) (by kernel_rfl) (by kernel_rfl) (fun _ _ _ h => h) (Or.inr ⟨by rfl, rfl⟩) (by assumption) ?_
              try simp only [Act.put, List.setIfInBounds_toArray, List.set_cons_zero, List.set_cons_succ]
              refine take_op 13 (some 78) (v := ?_) rfl rfl (by kernel_rfl) (by kernel_rfl) (by kernel_rfl) (fun _ _ _ h => h) (Or.inl ⟨by rfl, ?_⟩) (by assumption) ?_
              rotate_left
              · intro w_ hSw_; (try dsimp only at hSw_); go_simp; (try with_reducible rfl)
              try simp only [Act.put, List.setIfInBounds_toArray, List.set_cons_zero, List.set_cons_succ]
              refine take_op 14 (some 79) (v := ?_) rfl rfl (by kernel_rfl) (by kernel_rfl) (by kernel_rfl) (fun _ _ _ h => h) (Or.inl ⟨by rfl, ?_⟩) (by assumption) ?_
              rotate_left
              · intro w_ hSw_; (try dsimp only at hSw_); go_simp; (try with_reducible rfl)
              try simp only [Act.put, List.setIfInBounds_toArray, List.set_cons_zero, List.set_cons_succ]
              refine take_op 15 (some 80) rfl rfl (by kernel_rfl) (by kernel_rfl) (by kernel_rfl) (fun _ _ _ h => h) (Or.inr ⟨by rfl, rfl⟩) (by assumption) ?_
              try simp only [Act.put, List.setIfInBounds_toArray, List.set_cons_zero, List.set_cons_succ]
              refine take_op 16 (some 81) rfl rfl (by kernel_rfl) (by kernel_rfl) (by kernel_rfl) (fun _ _ _ h => h) (Or.inr ⟨by rfl, rfl⟩) (by assumption) ?_
              try simp only [Act.put, List.setIfInBounds_toArray, List.set_cons_zero, List.set_cons_succ]
              refine take_op 17 (some 82) rfl rfl (by kernel_rfl) (by kernel_rfl) (by kernel_rfl) (fun _ _ _ h => h) (Or.inr ⟨by rfl, rfl⟩) (by assumption) ?_
              try simp only [Act.put, List.setIfInBounds_toArray, List.set_cons_zero, List.set_cons_succ]
              refine take_op 18 (some 83) rfl rfl (by kernel_rfl) (by kernel_rfl) (by kernel_rfl) (fun _ _ _ h => h) (Or.inr ⟨by rfl, rfl⟩) (by assumption) ?_
              try simp only [Act.put, List.setIfInBounds_toArray, List.set_cons_zero, List.set_cons_succ]
              refine take_op 19 (some 84) rfl rfl (by kernel_rfl) (by kernel_rfl) (by kernel_rfl) (fun _ _ _ h => h) (Or.inr ⟨by rfl, rfl⟩) (by assumption) ?_
              try simp only [Act.put, List.setIfInBounds_toArray, List.set_cons_zero, List.set_cons_succ]
              refine take_op 20 (some 85) rfl rfl (by kernel_rfl) (by kernel_rfl) (by kernel_rfl) (fun _ _ _ h => h) (Or.inr ⟨by rfl, rfl⟩) (by assumption) ?_
              try simp only [Act.put, List.setIfInBounds_toArray, List.set_cons_zero, List.set_cons_succ]
              refine take_op 21 (some 86) rfl rfl (by kernel_rfl) (by kernel_rfl) (by kernel_rfl) (fun _ _ _ h => h) (Or.inr ⟨by rfl, rfl⟩) (by assumption) ?_
              try simp only [Act.put, List.setIfInBounds_toArray, List.set_cons_zero, List.set_cons_succ]
              refine take_op 22 (some 87) rfl rfl (by kernel_rfl) (by kernel_rfl) (by kernel_rfl) (fun _ _ _ h => h) (Or.inr ⟨by rfl, rfl⟩) (by assumption) ?_
              try simp only [Act.put, List.setIfInBounds_toArray, List.set_cons_zero, List.set_cons_succ]
              refine take_op 23 (some 88) (v := ?_) rfl rfl (by kernel_rfl) (by kernel_rfl) (by kernel_rfl) (fun _ _ _ h => h) (Or.inl ⟨by rfl, ?_⟩) (by assumption) ?_
              rotate_left
              · intro w_ hSw_; (try dsimp only at hSw_); go_simp; (try with_reducible rfl)
              try simp only [Act.put, List.setIfInBounds_toArray, List.set_cons_zero, List.set_cons_succ]
              refine wpAnyH_done (by kernel_rfl) ?_ _
              clear hHeld
              have hD : Below wi.heap.size wi wi.drew.drew := (Below.refl _ wi).drew.drew
              have HBI9 := Lib.hid (HBI.out.trans (hD.mono HBI.out.size))
              have X09 := Lib.hid ((hD.cell (p := ⟨bx, 0, none⟩) HBX.out).trans X0.out)
              have X19 := Lib.hid ((hD.cell (p := ⟨bx, 1, none⟩) HBX.out).trans X1.out)
              have X29 := Lib.hid ((hD.cell (p := ⟨bx, 2, none⟩) HBX.out).trans X2.out)
              have HBX9 : Hid (bx < wi.drew.drew.heap.size) := Lib.hid (Nat.lt_of_lt_of_le HBX.out hD.size)
              have HOWI9 := Lib.hid (owns_below HOWI.out hD (Nat.le_refl _))
              have SRC19 := Lib.hid (SRC1.out.below hD)
              have SRC29 := Lib.hid (SRC2.out.below hD)
              clear hD HBI X0 X1 X2 HBX HOWI SRC1 HBW SRC2
              revert HBI9 X09 X19 X29 HBX9 HOWI9 SRC19 SRC29
              generalize wi.drew.drew = wi
              intro HBI X0 X1 X2 HBX HOWI SRC1 SRC2
              go_wp2_with fail
              refine wp_region_held_drew (S := fun w' => Below wi.heap.size wi w') (by kernel_rfl) (Below.refl _ wi).drew (fun hHeld => ?_)
              refine take_op 1 (some 90) (v := ?_) rfl rfl (by kernel_rfl) (by kernel_rfl) (by kernel_rfl) (fun _ _ _ h => h) (Or.inl ⟨by rfl, ?_⟩) (by assumption) ?_
              rotate_left
              · intro w_ hSw_; (try dsimp only at hSw_); go_simp; (try with_reducible rfl)
              try simp only [Act.put, List.setIfInBounds_toArray, List.set_cons_zero, List.set_cons_succ]
              refine take_op 2 (some 91) (v := ?_) rfl rfl (by kernel_rfl) (by kernel_rfl) (by kernel_rfl) (fun _ _ _ h => h) (Or.inl ⟨by rfl, ?_⟩) (by assumption) ?_
              rotate_left
              · intro w_ hSw_; (try dsimp only at hSw_); go_simp; (try with_reducible rfl)
              try simp only [Act.put, List.setIfInBounds_toArray, List.set_cons_zero, List.set_cons_succ]
              refine take_op 3 (some 92) (v := ?_) rfl rfl (by kernel_rfl) (by kernel_rfl) (by kernel_rfl) (fun _ _ _ h => h) (Or.inl ⟨by rfl, ?_⟩) (by assumption) ?_
              rotate_left
              · intro w_ hSw_; (try dsimp only at hSw_); go_simp; (try with_reducible rfl)
              try simp only [Act.put, List.setIfInBounds_toArray, List.set_cons_zero, List.set_cons_succ]
              refine take_op 5 (some 94) (v := .agg #[.int .i64 x1, .int .i64 x2, .int .i64 x3]) rfl rfl (by kernel_rfl) (by kernel_rfl) (by kernel_rfl) (fun _ _ _ h => h) (Or.inl ⟨by rfl, ?_⟩) (by assumption) ?_
              · intro w_ hSw_
                have c0 := (hSw_.cell (p := ⟨bx, 0, none⟩) HBX.out).trans X0.out
                have c1 := (hSw_.cell (p := ⟨bx, 1, none⟩) HBX.out).trans X1.out
                have c2 := (hSw_.cell (p := ⟨bx, 2, none⟩) HBX.out).trans X2.out
                go_simp
                try rfl
              try simp only [Act.put, List.setIfInBounds_toArray, List.set_cons_zero, List.set_cons_succ]
              refine take_op 8 (some 97) (v := ?_) rfl rfl (by kernel_rfl) (by kernel_rfl) (by kernel_rfl) (fun _ _ _ h => h) (Or.inl ⟨by rfl, ?_⟩) (by assumption) ?_
              rotate_left
              · intro w_ hSw_; (try dsimp only at hSw_); go_simp; (try with_reducible rfl)
              try simp only [Act.put, List.setIfInBounds_toArray, List.set_cons_zero, List.set_cons_succ]
              refine take_op 9 (some 98) (v := ?_) rfl rfl (by kernel_rfl) (by kernel_rfl) (by kernel_rfl) (fun _ _ _ h => h) (Or.inl ⟨by rfl, ?_⟩) (by assumption) ?_
              rotate_left
              · intro w_ hSw_; (try dsimp only at hSw_); go_simp; (try with_reducible rfl)
              try simp only [Act.put, List.setIfInBounds_toArray, List.set_cons_zero, List.set_cons_succ]
              refine take_op 10 (some 99) (v := ?_) rfl rfl (by kernel_rfl) (by kernel_rfl) (by kernel_rfl) (fun _ _ _ h => h) (Or.inl ⟨by rfl, ?_⟩) (by assumption) ?_
              rotate_left
              · intro w_ hSw_; (try dsimp only at hSw_); go_simp; (try with_reducible rfl)
              try simp only [Act.put, List.setIfInBounds_toArray, List.set_cons_zero, List.set_cons_succ]
              refine wpAnyH_tab (fun w' => Below wi.heap.size wi w') [0, 4, 6] 3 [(0, 89, .newr wi.heap.size #[] 59), (4, 93, .ownk wi.heap.size 59 3 k ((out.take k).flatMap encE)), (6, 95, .rowk 1 #[.int .i64 x1, .int .i64 x2, .int .i64 x3] 59)] rfl rfl (by kernel_rfl) (fun _ h => h) (fun w1 w2 h hb => h.trans (hb.mono h.size)) hHeld ?_ ?_
              · skip
                refine InvSteps.cons rfl (fun xs_ wv hSv hr_ A_ hA_ K_ hK_ => ?_) ?_
                · skip
                  simp only [putAll, List.foldl, List.map, Act.put, List.setIfInBounds_toArray, List.set_cons_zero, List.set_cons_succ] at hA_
                  subst hA_
                  go_simp
                  exact hK_.out _ _ _ rfl ⟨_, rfl, hSv.size, Blk.new _ _ _⟩ ((Below.refl _ _).alloc (Nat.le_refl _) _)
                refine InvSteps.cons rfl (fun xs_ wv hSv hr_ A_ hA_ K_ hK_ => ?_) ?_
                · skip
                  obtain ⟨b0, e0, N0, B0⟩ := hr_ 0 (by kernel_rfl)
                  simp only [e0, putAll, List.foldl, List.map, Act.put, List.setIfInBounds_toArray, List.set_cons_zero, List.set_cons_succ] at hA_
                  subst hA_
                  refine step_appRowsFresh sl_rent rent_info rfl (by decide) encE_len encE_one (by decide) rfl rfl rfl b0 wi.heap.size N0 B0 (out.take k) (some ⟨g, 0, none⟩) k cap (by rw [List.length_take, ← HMO.out]; try omega) (SRC1.out.below hSv) (by have := HLE.out; omega) rfl rfl ?_
                  intro v' w' hown hb
                  exact hK_.out _ _ _ rfl hown hb
                refine InvSteps.cons rfl (fun xs_ wv hSv hr_ A_ hA_ K_ hK_ => ?_) ?_
                · skip
                  simp only [putAll, List.foldl, List.map, Act.put, List.setIfInBounds_toArray, List.set_cons_zero, List.set_cons_succ] at hA_
                  subst hA_
                  go_simp
                  exact hK_.out _ _ _ rfl ⟨_, rfl, Blk.new _ _ _⟩ ((Below.refl _ _).alloc (Nat.le_refl _) _)
                exact InvSteps.nil
              intro xs_ wv hSv hr_ A_ hA_
              have O4 : wv.ownsRow wi.heap.size 59 3 (xs_ 4) k ((out.take k).flatMap encE) := hr_ 4
              obtain ⟨b0, e0, N0, B0⟩ := hr_ 0
              obtain ⟨b6, e6, B6⟩ := hr_ 6
              simp only [e0, e6, putAll, List.foldl, List.map, Act.put, List.setIfInBounds_toArray, List.set_cons_zero, List.set_cons_succ] at hA_
              subst hA_
              clear hr_ e0 B0 N0 e6
              generalize xs_ 4 = v4 at O4
              refine go_op 7 rfl (by kernel_rfl) (fun K_ hK_ => ?_)
              refine step_appRows sl_rent rent_info rfl (by decide) encE_len encE_one (by decide) rfl rfl rfl wi.heap.size v4 k (out.take k) [(x1, x2, x3)] (some ⟨b6, 0, none⟩) 1 1 rfl O4 (SrcAt.one B6 rfl) (by have := HLE.out; omega) hSv.size rfl rfl ?_
              intro v7 w8 o7 g7 hv7
              have hb8 := hSv.trans (below_grown g7 hSv.size (fun k hk => owns_block O4 k hk))
              try simp only [Act.put, List.setIfInBounds_toArray, List.set_cons_zero, List.set_cons_succ]
              refine hK_.out _ _ hb8 (fun hHeld_ => ?_)
              refine go_op 11 rfl (by kernel_rfl) (fun K_ hK_ => ?_)
              refine step_appRows sl_rent rent_info rfl (by decide) encE_len encE_one (by decide) rfl rfl rfl wi.heap.size v7 (k + 1) (out.take k ++ [(x1, x2, x3)]) (out.drop k) (some ⟨g, k * 3, none⟩) 0 (cap - k) (by rw [List.length_drop, ← HMO.out]; try omega) o7 (SRC2.out.below hb8) (by have := HLE.out; omega) hb8.size rfl rfl ?_
              intro v8 w9 o8 g8 hv8
              have hb9 := hb8.trans (below_grown g8 hb8.size (fun k hk => owns_block o7 k hk))
              try simp only [Act.put, List.setIfInBounds_toArray, List.set_cons_zero, List.set_cons_succ]
              refine hK_.out _ _ hb9 (fun hHeld_ => ?_)
              refine take_op 12 (some 6) (v := ?_) rfl rfl (by kernel_rfl) (by kernel_rfl) (by kernel_rfl) (fun _ _ _ h => h) (Or.inl ⟨by rfl, ?_⟩) (by assumption) ?_
              rotate_left
              · intro w_ hSw_; (try dsimp only at hSw_); go_simp; (try with_reducible rfl)
              try simp only [Act.put, List.setIfInBounds_toArray, List.set_cons_zero, List.set_cons_succ]
              refine wpAnyH_done (by kernel_rfl) ?_ _
              have hins := HSORT.out.ins (x := (x1, x2, x3)) (k := k) HLT.out HGE.out
              have hlen : (out.take k ++ [(x1, x2, x3)] ++ out.drop k).length = k + 1 + 0 := by rw [List.length_append, List.length_append, List.length_take, List.length_drop, ← HMO.out, List.length_singleton]; try omega
              have HB9 := Lib.hid hb9
              have hO9 : w9.ownsRow w6.heap.size 59 3 v8 (out.take k ++ [(x1, x2, x3)] ++ out.drop k).length ((out.take k ++ [(x1, x2, x3)] ++ out.drop k).flatMap encE) := by rw [hlen]; exact owns_rebase o8 HBI.out.size
              have HO9 := Lib.hid hO9
              have hsum9 : addL (fun _ => none) (all.take (i + 1)) = some (updK M (x1, x2) x3) := by
                rw [HST.out, addL_snoc HSUM.out]
                have h0 : M (keyE (x1, x2, x3)) = none := hins.1
                rw [h0]
                show (if in64 (0 + x3) then some (updK M (x1, x2) (0 + x3)) else none) = _
                rw [Int.zero_add, if_pos HX3.out]
              have HSUM9 := Lib.hid hsum9
              have HIN9 := Lib.hid hins.2
              have HLEN9 := Lib.hid hlen
              clear hHeld hHeld_ o7 o8 g7 g8 hv7 hv8 hb8 hb9 hO9 hsum9 hins hlen O4 B6 hSv
              go_wp2_with fail
              go_roundw
              case rel => exact ⟨i + 1, _, _, v8, by omega, by go_num, rfl, rfl, rfl, HSUM9.out, HIN9.out, (by rw [HLEN9.out]; have := HLE.out; have := HMO.out; omega), HO9.out, HBI.out.trans (HB9.out.mono HBI.out.size)⟩
              case measure => simp [intOf]; omega
    · have g1 : ¬ (i : Int) < (n : Int) := by omega
      have hin : n = i := by omega
      have HALLS : Hid (addL (fun _ => none) all = some M) := Lib.hid (by
        have h9 := HSUM.out
        rwa [← hin, HNA.out, List.take_length] at h9)
      have HLN : Hid (out.length ≤ all.length) := Lib.hid (by rw [← HNA.out, ← HMO.out]; omega)
      have HBI := HBI0
      clear hin
      go_wp2_with fail
      go_loopw [12, 13] (fun x12 x13 wz => ∃ (j : Nat) (v : Value), j ≤ m ∧ x13 = .int .i64 j ∧ v = x12 ∧ wz.ownsRow wo.heap.size 59 3 v ((out.take j).filter fun x => decide (x.2.2 ≠ 0)).length (((out.take j).filter fun x => decide (x.2.2 ≠ 0)).flatMap encE) ∧ Below wo.heap.size wo wz) (fun _ y _ => m - (intOf y).toNat)
      case atStart => exact ⟨0, _, Nat.zero_le _, rfl, rfl, ⟨rfl, .inl ⟨rfl, rfl⟩⟩, Below.refl _ _⟩
      case round =>
        rename World => wz
        obtain ⟨j, vz, hj, rfl, rfl, hoz, hbz⟩ := hrel
        have HOZ := Lib.hid hoz
        have HBZ := Lib.hid hbz
        clear hoz hbz
        by_cases hlt2 : j < m
        · have g4 : (j : Int) < (m : Int) := by omega
          obtain ⟨y, hy⟩ : ∃ y, out[j]? = some y := ⟨out[j]'(by have := HMO.out; omega), List.getElem?_eq_getElem _⟩
          obtain ⟨by_, oy, rfl, hby, e0, e1, e2⟩ := encE_cell HSO.out j y hy
          have hst : Hid (out.take (j + 1) = out.take j ++ [y]) := Lib.hid (by rw [List.take_add_one, hy]; rfl)
          obtain ⟨y1, y2, y3⟩ := y
          dsimp only at e0 e1 e2
          have f0 := (HBZ.out.cell (p := ⟨by_, oy + j * 3, none⟩) hby).trans e0
          have f1 := (HBZ.out.cell (p := ⟨by_, oy + j * 3 + 1, none⟩) hby).trans e1
          have f2 := (HBZ.out.cell (p := ⟨by_, oy + j * 3 + 2, none⟩) hby).trans e2
          clear e0 e1 e2 hy
          by_cases hz : y3 = 0
          · subst hz
            have hfl : Hid (((out.take (j + 1)).filter fun x => decide (x.2.2 ≠ 0)) = (out.take j).filter fun x => decide (x.2.2 ≠ 0)) := Lib.hid (by rw [hst.out, List.filter_append]; simp)
            go_wp2_with fail
            go_roundw
            case rel => exact ⟨j + 1, _, by omega, by go_num, rfl, by rw [hfl.out]; exact HOZ.out, HBZ.out⟩
            case measure => simp [intOf]; omega
          · have hfl : Hid (((out.take (j + 1)).filter fun x => decide (x.2.2 ≠ 0)) = ((out.take j).filter fun x => decide (x.2.2 ≠ 0)) ++ [(y1, y2, y3)]) := Lib.hid (by rw [hst.out, List.filter_append]; simp [hz])
            have hfn : Hid (((out.take j).filter fun x => decide (x.2.2 ≠ 0)).length ≤ 1000000) := Lib.hid (by
              have := List.length_filter_le (fun x : Ent => decide (x.2.2 ≠ 0)) (out.take j)
              rw [List.length_take] at this
              have := HMO.out; have := HLE.out; omega)
            obtain ⟨fl, hfq⟩ : ∃ fl, fl = (out.take j).filter fun x => decide (x.2.2 ≠ 0) := ⟨_, rfl⟩
            rw [← hfq] at HOZ hfl hfn
            have HK : Hid (Blk (wz.alloc (.cells #[.int .i64 y1, .int .i64 y2, .int .i64 y3] 59)) wz.heap.size #[.int .i64 y1, .int .i64 y2, .int .i64 y3] 59) := Lib.hid (Blk.new _ _ _)
            have HBA : Hid (Below wz.heap.size wz (wz.alloc (.cells #[.int .i64 y1, .int .i64 y2, .int .i64 y3] 59))) := Lib.hid ((Below.refl _ wz).alloc (Nat.le_refl _) _)
            have HOA := Lib.hid (owns_below HOZ.out HBA.out (Nat.le_refl _))
            have HSA := Lib.hid (HBZ.out.trans (HBA.out.mono HBZ.out.size))
            clear hfq
            go_wp2_with (first | ((with_reducible refine at_appRows sl_rent rent_info rfl (by decide) encE_len encE_one (by decide) wo.heap.size vz fl.length fl [(y1, y2, y3)] (some ⟨wz.heap.size, 0, none⟩) 1 1 ?_ ?_ ?_ ?_ ?_ ?_ ?_ ?_); exact rfl; exact HOA.out; exact (SrcAt.one HK.out rfl); exact (by have := hfn.out; omega); exact HSA.out.size; exact rfl; exact rfl; intro v5 w5 ho5 hg5 hv5) | fail)
            have HO5 : Hid (w5.ownsRow wo.heap.size 59 3 v5 (fl ++ [(y1, y2, y3)]).length ((fl ++ [(y1, y2, y3)]).flatMap encE)) := Lib.hid (by rw [List.length_append]; exact ho5)
            have HB5 := Lib.hid (HSA.out.trans (below_grown hg5 HSA.out.size (fun k hk => owns_block HOA.out k hk)))
            clear ho5 hg5 hv5
            go_wp2_with fail
            go_roundw
            case rel => exact ⟨j + 1, v5, by omega, by go_num, rfl, by rw [hfl.out]; exact HO5.out, HB5.out⟩
            case measure => simp [intOf]; omega
        · have g4 : ¬ (j : Int) < (m : Int) := by omega
          have hjm : m = j := by omega
          have hfin : Hid (out.take j = out) := Lib.hid (by rw [← hjm, HMO.out]; exact List.take_length)
          clear hjm
          rw [hfin.out] at HOZ
          go_wp2_with fail
          go_ret2
          unfold RefAddPost
          first | rw [HALLS.out] | rw [← HALL.out, HALLS.out]
          have hfl := List.length_filter_le (fun x : Ent => decide (x.2.2 ≠ 0)) out
          have hb := HBI.out.trans (HBZ.out.mono HBI.out.size)
          exact ⟨_, _, rfl, HSORT.out.told, by have := HLN.out; omega, RowsAt.own encE_len HOZ.out rfl (by have := HLE.out; have := HMO.out; omega), HB6.out.trans (hb.mono HB6.out.size)⟩
end Go.Proofs.Ytimiehnknehagaa
