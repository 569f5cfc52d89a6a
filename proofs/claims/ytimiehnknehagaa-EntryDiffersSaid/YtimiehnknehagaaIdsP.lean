import Derived.Test.YtimiehnknehagaaIdsPlain
set_option linter.unusedSimpArgs false
set_option linter.unusedVariables false
namespace Go.Proofs.Ytimiehnknehagaa
open Go.RowKit
/-! The reference's ids. -/
def IdsPost (all : List LoanM) (w : World) (e : Ending) (w' : World) : Prop :=
  ∃ v out, e = .returned v ∧ SortedI (fun y => ∃ x ∈ all, x.id = y) out ∧ out.length ≤ all.length ∧ RowsAt encI 1 w' v out ∧ Below w.heap.size w w'
/-- At the head of the outer loop. -/
structure RIds (w6 wr : World) (all : List LoanM) (i : Nat) (out : List Int) (v : Value) : Prop where
  sorted : SortedI (fun y => ∃ x ∈ all.take i, x.id = y) out
  len : out.length ≤ i
  own : wr.ownsRow w6.heap.size 3 1 v out.length (out.flatMap encI)
  bel : Below w6.heap.size w6 wr
theorem ids_step {all : List LoanM} {i : Nat} {x : LoanM} (hx : all[i]? = some x) (y : Int) : ((∃ z ∈ all.take i, z.id = y) ∨ y = x.id) ↔ ∃ z ∈ all.take (i + 1), z.id = y := by
  rw [List.take_add_one, hx]
  constructor
  · rintro (⟨z, hz, e⟩ | e)
    · exact ⟨z, List.mem_append_left _ hz, e⟩
    · exact ⟨x, by simp, e.symm⟩
  · rintro ⟨z, hz, e⟩
    rcases List.mem_append.1 hz with hz | hz
    · exact .inl ⟨z, hz, e⟩
    · simp at hz; subst hz; exact .inr e.symm
set_option maxRecDepth 100000 in
set_option maxHeartbeats 8000000 in
theorem ids_any (vl vm : Value) (l more : List LoanM) (hn : l.length + more.length ≤ 1000000) (w : World) (hl : RowsAt encLoan 13 w vl l) (hm : RowsAt encLoan 13 w vm more) :
    Calls Try.prog 27 #[vl, vm] w (IdsPost (l ++ more) w) := by
  obtain ⟨adl, cl, rfl, hl1, hl2, hls⟩ := hl
  obtain ⟨adm, cm, rfl, hm1, hm2, hms⟩ := hm
  obtain ⟨nl, hnl⟩ : ∃ n, n = l.length := ⟨_, rfl⟩
  obtain ⟨nm, hnm⟩ : ∃ n, n = more.length := ⟨_, rfl⟩
  rw [← hnl] at hn hl1 hl2 ⊢
  rw [← hnm] at hn hm1 hm2 ⊢
  have HNL := Lib.hid hnl
  have HNM := Lib.hid hnm
  have HSL := Lib.hid hls
  have HSM := Lib.hid hms
  clear hnl hnm hls hms
  have HO0 : Hid ((w.alloc (.cells #[] 58)).ownsRow w.heap.size 58 13 (.slice (some ⟨w.heap.size, 0, none⟩) 0 0) 0 (([] : List LoanM).flatMap encLoan)) := Lib.hid (empty_own w _ _)
  have HB0 : Hid (Below w.heap.size w (w.alloc (.cells #[] 58))) := Lib.hid ((Below.refl _ w).alloc (Nat.le_refl _) _)
  have HSL1 := Lib.hid (HSL.out.below HB0.out)
  go_enter Try.func27, Try.ntmps27
  go_wp2_with (first | ((with_reducible refine at_appRows sl_loan loan_info rfl (by decide) encLoan_len encLoan_one (by decide) w.heap.size (.slice (some ⟨w.heap.size, 0, none⟩) 0 0) 0 [] l adl nl cl ?_ ?_ ?_ ?_ ?_ ?_ ?_ ?_); exact HNL.out; exact HO0.out; exact HSL1.out; exact (by omega); exact HB0.out.size; exact rfl; exact rfl; intro v5 w5 ho5 hg5 hv5; rw [Nat.zero_add, List.nil_append] at ho5; have hb5 := HB0.out.trans (below_grown hg5 HB0.out.size (fun k hk => owns_block HO0.out k hk)); have HO5 := Lib.hid ho5; have HB5 := Lib.hid hb5; have HSM5 := Lib.hid (HSM.out.below hb5); clear ho5 hg5 hv5 hb5) | ((with_reducible refine at_appRows sl_loan loan_info rfl (by decide) encLoan_len encLoan_one (by decide) w.heap.size v5 nl l more adm nm cm ?_ ?_ ?_ ?_ ?_ ?_ ?_ ?_); exact HNM.out; exact HO5.out; exact HSM5.out; exact (by omega); exact HB5.out.size; exact rfl; exact rfl; intro v6 w6 ho6 hg6 hv6) | fail)
  obtain ⟨all, hall⟩ : ∃ all, all = l ++ more := ⟨_, rfl⟩
  obtain ⟨n, hnn⟩ : ∃ n, n = nl + nm := ⟨_, rfl⟩
  have hb6 := HB5.out.trans (below_grown hg6 HB5.out.size (fun k hk => owns_block HO5.out k hk))
  have hna : n = all.length := by rw [hall, List.length_append, hnn, HNL.out, HNM.out]
  have hn6 : n ≤ 1000000 := by omega
  rw [← hall, ← hnn] at ho6
  obtain ⟨ada, ca, hva, ha1, ha2, has⟩ := RowsAt.own encLoan_len ho6 hna (by omega)
  rw [← hna] at hva ha1 ha2
  subst hva
  have HB6 := Lib.hid hb6
  have HSA := Lib.hid has
  have HNA := Lib.hid hna
  have HALL := Lib.hid hall
  clear ho6 hg6 hv6 hb6 has hna hall hnn HO0 HB0 HSL1 HO5 HB5 HSM5 HSL HSM HNL HNM hl1 hl2 hm1 hm2 hn
  go_wp2_with fail
  go_loopw [5, 7] (fun x5 x7 wr => ∃ (i : Nat) (out : List Int) (v : Value), i ≤ n ∧ x7 = .int .i64 i ∧ v = x5 ∧ RIds w6 wr all i out v) (fun _ y _ => n - (intOf y).toNat)
  case atStart => exact ⟨0, [], _, Nat.zero_le _, rfl, rfl, ⟨List.Pairwise.nil, fun x => by simp⟩, Nat.le_refl _, ⟨rfl, .inl ⟨rfl, rfl⟩⟩, Below.refl _ _⟩
  case round =>
    rename World => wo
    obtain ⟨i, out, v, hi, rfl, rfl, hR⟩ := hrel
    obtain ⟨hsort, hlen, hown, hbel⟩ := hR
    obtain ⟨m, hmo⟩ : ∃ m, m = out.length := ⟨_, rfl⟩
    rw [← hmo] at hown hlen
    have HMO := Lib.hid hmo
    have HSORT := Lib.hid hsort
    have HBI0 := Lib.hid hbel
    have HLE : Hid (m ≤ 1000000) := Lib.hid (by omega)
    obtain ⟨ad, cap, hv, hc1, hc2, hso⟩ := RowsAt.own encI_len hown hmo (by omega)
    rw [← hmo] at hv hc1 hc2
    subst hv
    have HOWN := Lib.hid hown
    have HSO := Lib.hid hso
    clear hmo hsort hbel hown hso
    by_cases hlt : i < n
    · have g1 : (i : Int) < (n : Int) := by omega
      obtain ⟨xl, hx⟩ : ∃ x, all[i]? = some x := ⟨all[i]'(by have := HNA.out; omega), List.getElem?_eq_getElem _⟩
      obtain ⟨be, oe, rfl, hbe, hc⟩ := loan_cell HSA.out i xl hx
      have HSTEP0 := Lib.hid (ids_step hx)
      obtain ⟨x, hxe⟩ : ∃ x, x = xl.id := ⟨_, rfl⟩
      have e0 : w6.cell? ⟨be, oe + i * 13, none⟩ = some (.int .i64 x) := by rw [hxe]; exact hc 0 _ rfl
      have HSTEP : Hid (∀ y, ((∃ z ∈ all.take i, z.id = y) ∨ y = x) ↔ ∃ z ∈ all.take (i + 1), z.id = y) := Lib.hid (by rw [hxe]; exact HSTEP0.out)
      have F0 := Lib.hid ((HBI0.out.cell (p := ⟨be, oe + i * 13, none⟩) hbe).trans e0)
      have HBE : Hid (be < wo.heap.size) := Lib.hid (Nat.lt_of_lt_of_le hbe HBI0.out.size)
      clear e0 hx hc hxe HSTEP0 hbe
      go_wp2_with fail
      go_loopw [8] (fun x8 wi => ∃ (k : Nat), k ≤ m ∧ x8 = .int .i64 k ∧ (∀ j y, j < k → out[j]? = some y → y < x) ∧ Below wo.heap.size wo wi) (fun x _ => m - (intOf x).toNat)
      case atStart => exact ⟨0, Nat.zero_le _, rfl, fun j y hj => absurd hj (Nat.not_lt_zero _), Below.refl _ _⟩
      case round =>
        rename World => wi
        obtain ⟨k, hk, rfl, hltk, hbi⟩ := hrel
        have HLT := Lib.hid hltk
        have HBI : Hid (Below w6.heap.size w6 wi) := Lib.hid (HBI0.out.trans (hbi.mono HBI0.out.size))
        have X0 := Lib.hid ((hbi.cell (p := ⟨be, oe + i * 13, none⟩) HBE.out).trans F0.out)
        have HBX : Hid (be < wi.heap.size) := Lib.hid (Nat.lt_of_lt_of_le HBE.out hbi.size)
        have HSOI := Lib.hid (HSO.out.below hbi)
        have HOWI := Lib.hid (owns_below HOWN.out hbi (Nat.le_refl _))
        have SRC1 := Lib.hid (HSOI.out.take k)
        have HBW := Lib.hid hbi
        clear hltk hbi
        by_cases hkm : k < m
        · have g2 : (k : Int) < (m : Int) := by omega
          obtain ⟨y, hy⟩ : ∃ y, out[k]? = some y := ⟨out[k]'(by have := HMO.out; omega), List.getElem?_eq_getElem _⟩
          have hadg : ∃ g, ad = some ⟨g, 0, none⟩ := by
            rcases own_ad' HOWI.out with ⟨h, _⟩ | ⟨g, h, _⟩
            · omega
            · exact ⟨g, h⟩
          obtain ⟨g, rfl⟩ := hadg
          have Y0 : wi.cell? ⟨g, k, none⟩ = some (.int .i64 y) := by
            have := own_cell encI_len HOWI.out HMO.out (by omega) k y hy 0 _ rfl
            rwa [Nat.mul_one, Nat.add_zero] at this
          have HY := Lib.hid hy
          have SRC2 : Hid (SrcAt encI 1 wi (some ⟨g, k, none⟩) (out.drop k)) := Lib.hid (by have := HSOI.out.drop k; rwa [Nat.zero_add, Nat.mul_one] at this)
          have hkc : k ≤ cap := by omega
          have hck : ¬ cap = k := by omega
          clear hy
          have ik : Hid (decide (k < m) = true) := Lib.hid (by simpa using hkm)
          have ik9 : Hid (decide ((k : Int) < (m : Int)) = true) := Lib.hid (decide_eq_true g2)
          have nk : Hid (@BEq.beq Int instBEqOfDecidableEq (k : Int) (m : Int) = false) := Lib.hid (by simp; omega)
          by_cases hc : y < x
          · have hc1 : Hid (decide (y < x) = true) := Lib.hid (decide_eq_true hc)
            clear hc
            go_wp2_with fail
            refine wp_region_held_drew (S := fun w' => w'.cell? ⟨g, k, none⟩ = some (.int .i64 y) ∧ w'.cell? ⟨be, oe + i * 13, none⟩ = some (.int .i64 x)) (by kernel_rfl) ⟨Y0, X0.out⟩ (fun hHeld => ?_)
            refine take_op 0 (some 20) (v := ?_) rfl rfl (by kernel_rfl) (by kernel_rfl) (by kernel_rfl) (fun _ _ _ h => h) (Or.inl ⟨by rfl, ?_⟩) (by assumption) ?_
            rotate_left
            · intro w_ hSw_; (try dsimp only at hSw_); go_simp; (try with_reducible rfl)
            try simp only [Act.put, List.setIfInBounds_toArray, List.set_cons_zero, List.set_cons_succ]
            refine take_op 1 (some 21) (v := ?_) rfl rfl (by kernel_rfl) (by kernel_rfl) (by kernel_rfl) (fun _ _ _ h => h) (Or.inl ⟨by rfl, ?_⟩) (by assumption) ?_
            rotate_left
            · intro w_ hSw_; (try dsimp only at hSw_); go_simp; (try with_reducible rfl)
            try simp only [Act.put, List.setIfInBounds_toArray, List.set_cons_zero, List.set_cons_succ]
            refine take_op 2 (some 22) (v := ?_) rfl rfl (by kernel_rfl) (by kernel_rfl) (by kernel_rfl) (fun _ _ _ h => h) (Or.inl ⟨by rfl, ?_⟩) (by assumption) ?_
            rotate_left
            · intro w_ hSw_; (try dsimp only at hSw_); go_simp; (try with_reducible rfl)
            try simp only [Act.put, List.setIfInBounds_toArray, List.set_cons_zero, List.set_cons_succ]
            refine take_op 3 (some 23) (v := ?_) rfl rfl (by kernel_rfl) (by kernel_rfl) (by kernel_rfl) (fun _ _ _ h => h) (Or.inl ⟨by rfl, ?_⟩) (by assumption) ?_
            rotate_left
            · intro w_ hSw_; (try dsimp only at hSw_); go_simp; (try with_reducible rfl)
            try simp only [Act.put, List.setIfInBounds_toArray, List.set_cons_zero, List.set_cons_succ]
            first | rw [ik.out] | rw [ik9.out] | skip
            refine take_op 4 (some 24) (v := ?_) rfl rfl (by kernel_rfl) (by kernel_rfl) (by kernel_rfl) (fun _ _ _ h => h) (Or.inl ⟨by rfl, ?_⟩) (by assumption) ?_
            rotate_left
            · intro w_ hSw_; (try dsimp only at hSw_); go_simp; (try with_reducible rfl)
            try simp only [Act.put, List.setIfInBounds_toArray, List.set_cons_zero, List.set_cons_succ]
            refine take_op 5 (some 25) (v := ?_) rfl rfl (by kernel_rfl) (by kernel_rfl) (by kernel_rfl) (fun _ _ _ h => h) (Or.inl ⟨by rfl, ?_⟩) (by assumption) ?_
            rotate_left
            · intro w_ hSw_; (try dsimp only at hSw_); go_simp; (try with_reducible rfl)
            try simp only [Act.put, List.setIfInBounds_toArray, List.set_cons_zero, List.set_cons_succ]
            refine take_op 6 (some 26) (v := ?_) rfl rfl (by kernel_rfl) (by kernel_rfl) (by kernel_rfl) (fun _ _ _ h => h) (Or.inl ⟨by rfl, ?_⟩) (by assumption) ?_
            rotate_left
            · intro w_ hSw_; (try dsimp only at hSw_); go_simp; (try with_reducible rfl)
            try simp only [Act.put, List.setIfInBounds_toArray, List.set_cons_zero, List.set_cons_succ]
            refine take_op 7 (some 27) (v := ?_) rfl rfl (by kernel_rfl) (by kernel_rfl) (by kernel_rfl) (fun _ _ _ h => h) (Or.inl ⟨by rfl, ?_⟩) (by assumption) ?_
            rotate_left
            · intro w_ hSw_; (try dsimp only at hSw_); go_simp; (try with_reducible rfl)
            try simp only [Act.put, List.setIfInBounds_toArray, List.set_cons_zero, List.set_cons_succ]
            refine take_op 8 (some 28) (v := ?_) rfl rfl (by kernel_rfl) (by kernel_rfl) (by kernel_rfl) (fun _ _ _ h => h) (Or.inl ⟨by rfl, ?_⟩) (by assumption) ?_
            rotate_left
            · intro w_ hSw_; (try dsimp only at hSw_); go_simp; (try with_reducible rfl)
            try simp only [Act.put, List.setIfInBounds_toArray, List.set_cons_zero, List.set_cons_succ]
            refine take_op 9 (some 29) (v := ?_) rfl rfl (by kernel_rfl) (by kernel_rfl) (by kernel_rfl) (fun _ _ _ h => h) (Or.inl ⟨by rfl, ?_⟩) (by assumption) ?_
            rotate_left
            · intro w_ hSw_; (try dsimp only at hSw_); go_simp; (try with_reducible rfl)
            try simp only [Act.put, List.setIfInBounds_toArray, List.set_cons_zero, List.set_cons_succ]
            refine take_op 10 (some 30) (v := ?_) rfl rfl (by kernel_rfl) (by kernel_rfl) (by kernel_rfl) (fun _ _ _ h => h) (Or.inl ⟨by rfl, ?_⟩) (by assumption) ?_
            rotate_left
            · intro w_ hSw_; (try dsimp only at hSw_); go_simp; (try with_reducible rfl)
            try simp only [Act.put, List.setIfInBounds_toArray, List.set_cons_zero, List.set_cons_succ]
            refine take_op 11 (some 31) (v := ?_) rfl rfl (by kernel_rfl) (by kernel_rfl) (by kernel_rfl) (fun _ _ _ h => h) (Or.inl ⟨by rfl, ?_⟩) (by assumption) ?_
            rotate_left
            · intro w_ hSw_; (try dsimp only at hSw_); go_simp; (try with_reducible rfl)
            try simp only [Act.put, List.setIfInBounds_toArray, List.set_cons_zero, List.set_cons_succ]
            refine take_op 12 (some 32) (v := ?_) rfl rfl (by kernel_rfl) (by kernel_rfl) (by kernel_rfl) (fun _ _ _ h => h) (Or.inl ⟨by rfl, ?_⟩) (by assumption) ?_
            rotate_left
            · intro w_ hSw_; (try dsimp only at hSw_); go_simp; (try with_reducible rfl)
            try simp only [Act.put, List.setIfInBounds_toArray, List.set_cons_zero, List.set_cons_succ]
            refine take_op 13 (some 33) (v := ?_) rfl rfl (by kernel_rfl) (by kernel_rfl) (by kernel_rfl) (fun _ _ _ h => h) (Or.inl ⟨by rfl, ?_⟩) (by assumption) ?_
            rotate_left
            · intro w_ hSw_; (try dsimp only at hSw_); go_simp; (try with_reducible rfl)
            try simp only [Act.put, List.setIfInBounds_toArray, List.set_cons_zero, List.set_cons_succ]
            refine take_op 14 (some 34) (v := ?_) rfl rfl (by kernel_rfl) (by kernel_rfl) (by kernel_rfl) (fun _ _ _ h => h) (Or.inl ⟨by rfl, ?_⟩) (by assumption) ?_
            rotate_left
            · intro w_ hSw_; (try dsimp only at hSw_); go_simp; (try with_reducible rfl)
            try simp only [Act.put, List.setIfInBounds_toArray, List.set_cons_zero, List.set_cons_succ]
            first | rw [hc1.out] | skip
            refine take_op 15 (some 35) (v := ?_) rfl rfl (by kernel_rfl) (by kernel_rfl) (by kernel_rfl) (fun _ _ _ h => h) (Or.inl ⟨by rfl, ?_⟩) (by assumption) ?_
            rotate_left
            · intro w_ hSw_; (try dsimp only at hSw_); go_simp; (try with_reducible rfl)
            try simp only [Act.put, List.setIfInBounds_toArray, List.set_cons_zero, List.set_cons_succ]
            refine wpAnyH_done (by kernel_rfl) ?_ _
            clear hHeld
            go_wp2_with fail
            go_roundw
            case rel =>
              refine ⟨k + 1, by omega, by go_num, ?_, HBW.out.drew⟩
              intro j z hj hz
              rcases Nat.lt_or_ge j k with h9 | h9
              · exact HLT.out j z h9 hz
              · obtain rfl : k = j := by omega
                rw [HY.out] at hz
                obtain rfl := Option.some.inj hz
                exact of_decide_eq_true hc1.out
            case measure => simp [intOf]; omega
          · have hc1 : Hid (decide (y < x) = false) := Lib.hid (decide_eq_false hc)
            by_cases hd : y = x
            · have hd := hd.symm
              subst hd
              have hd2 : Hid (@bne Int instBEqOfDecidableEq x x = false) := Lib.hid (by simp)
              clear hc
              go_wp2_with fail
              refine wp_region_held_drew (S := fun w' => w'.cell? ⟨g, k, none⟩ = some (.int .i64 x) ∧ w'.cell? ⟨be, oe + i * 13, none⟩ = some (.int .i64 x)) (by kernel_rfl) ⟨Y0, X0.out⟩ (fun hHeld => ?_)
              refine take_op 0 (some 20) (v := ?_) rfl rfl (by kernel_rfl) (by kernel_rfl) (by kernel_rfl) (fun _ _ _ h => h) (Or.inl ⟨by rfl, ?_⟩) (by assumption) ?_
              rotate_left
              · intro w_ hSw_; (try dsimp only at hSw_); go_simp; (try with_reducible rfl)
              try simp only [Act.put, List.setIfInBounds_toArray, List.set_cons_zero, List.set_cons_succ]
              refine take_op 1 (some 21) (v := ?_) rfl rfl (by kernel_rfl) (by kernel_rfl) (by kernel_rfl) (fun _ _ _ h => h) (Or.inl ⟨by rfl, ?_⟩) (by assumption) ?_
              rotate_left
              · intro w_ hSw_; (try dsimp only at hSw_); go_simp; (try with_reducible rfl)
              try simp only [Act.put, List.setIfInBounds_toArray, List.set_cons_zero, List.set_cons_succ]
              refine take_op 2 (some 22) (v := ?_) rfl rfl (by kernel_rfl) (by kernel_rfl) (by kernel_rfl) (fun _ _ _ h => h) (Or.inl ⟨by rfl, ?_⟩) (by assumption) ?_
              rotate_left
              · intro w_ hSw_; (try dsimp only at hSw_); go_simp; (try with_reducible rfl)
              try simp only [Act.put, List.setIfInBounds_toArray, List.set_cons_zero, List.set_cons_succ]
              refine take_op 3 (some 23) (v := ?_) rfl rfl (by kernel_rfl) (by kernel_rfl) (by kernel_rfl) (fun _ _ _ h => h) (Or.inl ⟨by rfl, ?_⟩) (by assumption) ?_
              rotate_left
              · intro w_ hSw_; (try dsimp only at hSw_); go_simp; (try with_reducible rfl)
              try simp only [Act.put, List.setIfInBounds_toArray, List.set_cons_zero, List.set_cons_succ]
              first | rw [ik.out] | rw [ik9.out] | skip
              refine take_op 4 (some 24) (v := ?_) rfl rfl (by kernel_rfl) (by kernel_rfl) (by kernel_rfl) (fun _ _ _ h => h) (Or.inl ⟨by rfl, ?_⟩) (by assumption) ?_
              rotate_left
              · intro w_ hSw_; (try dsimp only at hSw_); go_simp; (try with_reducible rfl)
              try simp only [Act.put, List.setIfInBounds_toArray, List.set_cons_zero, List.set_cons_succ]
              refine take_op 5 (some 25) (v := ?_) rfl rfl (by kernel_rfl) (by kernel_rfl) (by kernel_rfl) (fun _ _ _ h => h) (Or.inl ⟨by rfl, ?_⟩) (by assumption) ?_
              rotate_left
              · intro w_ hSw_; (try dsimp only at hSw_); go_simp; (try with_reducible rfl)
              try simp only [Act.put, List.setIfInBounds_toArray, List.set_cons_zero, List.set_cons_succ]
              refine take_op 6 (some 26) (v := ?_) rfl rfl (by kernel_rfl) (by kernel_rfl) (by kernel_rfl) (fun _ _ _ h => h) (Or.inl ⟨by rfl, ?_⟩) (by assumption) ?_
              rotate_left
              · intro w_ hSw_; (try dsimp only at hSw_); go_simp; (try with_reducible rfl)
              try simp only [Act.put, List.setIfInBounds_toArray, List.set_cons_zero, List.set_cons_succ]
              refine take_op 7 (some 27) (v := ?_) rfl rfl (by kernel_rfl) (by kernel_rfl) (by kernel_rfl) (fun _ _ _ h => h) (Or.inl ⟨by rfl, ?_⟩) (by assumption) ?_
              rotate_left
              · intro w_ hSw_; (try dsimp only at hSw_); go_simp; (try with_reducible rfl)
              try simp only [Act.put, List.setIfInBounds_toArray, List.set_cons_zero, List.set_cons_succ]
              refine take_op 8 (some 28) (v := ?_) rfl rfl (by kernel_rfl) (by kernel_rfl) (by kernel_rfl) (fun _ _ _ h => h) (Or.inl ⟨by rfl, ?_⟩) (by assumption) ?_
              rotate_left
              · intro w_ hSw_; (try dsimp only at hSw_); go_simp; (try with_reducible rfl)
              try simp only [Act.put, List.setIfInBounds_toArray, List.set_cons_zero, List.set_cons_succ]
              refine take_op 9 (some 29) (v := ?_) rfl rfl (by kernel_rfl) (by kernel_rfl) (by kernel_rfl) (fun _ _ _ h => h) (Or.inl ⟨by rfl, ?_⟩) (by assumption) ?_
              rotate_left
              · intro w_ hSw_; (try dsimp only at hSw_); go_simp; (try with_reducible rfl)
              try simp only [Act.put, List.setIfInBounds_toArray, List.set_cons_zero, List.set_cons_succ]
              refine take_op 10 (some 30) (v := ?_) rfl rfl (by kernel_rfl) (by kernel_rfl) (by kernel_rfl) (fun _ _ _ h => h) (Or.inl ⟨by rfl, ?_⟩) (by assumption) ?_
              rotate_left
              · intro w_ hSw_; (try dsimp only at hSw_); go_simp; (try with_reducible rfl)
              try simp only [Act.put, List.setIfInBounds_toArray, List.set_cons_zero, List.set_cons_succ]
              refine take_op 11 (some 31) (v := ?_) rfl rfl (by kernel_rfl) (by kernel_rfl) (by kernel_rfl) (fun _ _ _ h => h) (Or.inl ⟨by rfl, ?_⟩) (by assumption) ?_
              rotate_left
              · intro w_ hSw_; (try dsimp only at hSw_); go_simp; (try with_reducible rfl)
              try simp only [Act.put, List.setIfInBounds_toArray, List.set_cons_zero, List.set_cons_succ]
              refine take_op 12 (some 32) (v := ?_) rfl rfl (by kernel_rfl) (by kernel_rfl) (by kernel_rfl) (fun _ _ _ h => h) (Or.inl ⟨by rfl, ?_⟩) (by assumption) ?_
              rotate_left
              · intro w_ hSw_; (try dsimp only at hSw_); go_simp; (try with_reducible rfl)
              try simp only [Act.put, List.setIfInBounds_toArray, List.set_cons_zero, List.set_cons_succ]
              refine take_op 13 (some 33) (v := ?_) rfl rfl (by kernel_rfl) (by kernel_rfl) (by kernel_rfl) (fun _ _ _ h => h) (Or.inl ⟨by rfl, ?_⟩) (by assumption) ?_
              rotate_left
              · intro w_ hSw_; (try dsimp only at hSw_); go_simp; (try with_reducible rfl)
              try simp only [Act.put, List.setIfInBounds_toArray, List.set_cons_zero, List.set_cons_succ]
              refine take_op 14 (some 34) (v := ?_) rfl rfl (by kernel_rfl) (by kernel_rfl) (by kernel_rfl) (fun _ _ _ h => h) (Or.inl ⟨by rfl, ?_⟩) (by assumption) ?_
              rotate_left
              · intro w_ hSw_; (try dsimp only at hSw_); go_simp; (try with_reducible rfl)
              try simp only [Act.put, List.setIfInBounds_toArray, List.set_cons_zero, List.set_cons_succ]
              first | rw [hc1.out] | skip
              refine take_op 15 (some 35) (v := ?_) rfl rfl (by kernel_rfl) (by kernel_rfl) (by kernel_rfl) (fun _ _ _ h => h) (Or.inl ⟨by rfl, ?_⟩) (by assumption) ?_
              rotate_left
              · intro w_ hSw_; (try dsimp only at hSw_); go_simp; (try with_reducible rfl)
              try simp only [Act.put, List.setIfInBounds_toArray, List.set_cons_zero, List.set_cons_succ]
              refine wpAnyH_done (by kernel_rfl) ?_ _
              clear hHeld
              go_wp2_with fail
              refine wp_region_held_drew (S := fun w' => w'.cell? ⟨g, k, none⟩ = some (.int .i64 x) ∧ w'.cell? ⟨be, oe + i * 13, none⟩ = some (.int .i64 x)) (by kernel_rfl) ⟨Y0, X0.out⟩ (fun hHeld => ?_)
              refine take_op 0 (some 38) (v := ?_) rfl rfl (by kernel_rfl) (by kernel_rfl) (by kernel_rfl) (fun _ _ _ h => h) (Or.inl ⟨by rfl, ?_⟩) (by assumption) ?_
              rotate_left
              · intro w_ hSw_; (try dsimp only at hSw_); go_simp; (try with_reducible rfl)
              try simp only [Act.put, List.setIfInBounds_toArray, List.set_cons_zero, List.set_cons_succ]
              refine take_op 1 (some 39) (v := ?_) rfl rfl (by kernel_rfl) (by kernel_rfl) (by kernel_rfl) (fun _ _ _ h => h) (Or.inl ⟨by rfl, ?_⟩) (by assumption) ?_
              rotate_left
              · intro w_ hSw_; (try dsimp only at hSw_); go_simp; (try with_reducible rfl)
              try simp only [Act.put, List.setIfInBounds_toArray, List.set_cons_zero, List.set_cons_succ]
              refine take_op 2 (some 40) (v := ?_) rfl rfl (by kernel_rfl) (by kernel_rfl) (by kernel_rfl) (fun _ _ _ h => h) (Or.inl ⟨by rfl, ?_⟩) (by assumption) ?_
              rotate_left
              · intro w_ hSw_; (try dsimp only at hSw_); go_simp; (try with_reducible rfl)
              try simp only [Act.put, List.setIfInBounds_toArray, List.set_cons_zero, List.set_cons_succ]
              refine take_op 3 (some 41) (v := ?_) rfl rfl (by kernel_rfl) (by kernel_rfl) (by kernel_rfl) (fun _ _ _ h => h) (Or.inl ⟨by rfl, ?_⟩) (by assumption) ?_
              rotate_left
              · intro w_ hSw_; (try dsimp only at hSw_); go_simp; (try with_reducible rfl)
              try simp only [Act.put, List.setIfInBounds_toArray, List.set_cons_zero, List.set_cons_succ]
              first | rw [nk.out] | skip
              refine take_op 4 (some 42) (v := ?_) rfl rfl (by kernel_rfl) (by kernel_rfl) (by kernel_rfl) (fun _ _ _ h => h) (Or.inl ⟨by rfl, ?_⟩) (by assumption) ?_
              rotate_left
              · intro w_ hSw_; (try dsimp only at hSw_); go_simp; (try with_reducible rfl)
              try simp only [Act.put, List.setIfInBounds_toArray, List.set_cons_zero, List.set_cons_succ]
              refine take_op 5 (some 43) (v := ?_) rfl rfl (by kernel_rfl) (by kernel_rfl) (by kernel_rfl) (fun _ _ _ h => h) (Or.inl ⟨by rfl, ?_⟩) (by assumption) ?_
              rotate_left
              · intro w_ hSw_; (try dsimp only at hSw_); go_simp; (try with_reducible rfl)
              try simp only [Act.put, List.setIfInBounds_toArray, List.set_cons_zero, List.set_cons_succ]
              refine take_op 6 (some 44) (v := ?_) rfl rfl (by kernel_rfl) (by kernel_rfl) (by kernel_rfl) (fun _ _ _ h => h) (Or.inl ⟨by rfl, ?_⟩) (by assumption) ?_
              rotate_left
              · intro w_ hSw_; (try dsimp only at hSw_); go_simp; (try with_reducible rfl)
              try simp only [Act.put, List.setIfInBounds_toArray, List.set_cons_zero, List.set_cons_succ]
              refine take_op 7 (some 45) (v := ?_) rfl rfl (by kernel_rfl) (by kernel_rfl) (by kernel_rfl) (fun _ _ _ h => h) (Or.inl ⟨by rfl, ?_⟩) (by assumption) ?_
              rotate_left
              · intro w_ hSw_; (try dsimp only at hSw_); go_simp; (try with_reducible rfl)
              try simp only [Act.put, List.setIfInBounds_toArray, List.set_cons_zero, List.set_cons_succ]
              refine take_op 8 (some 46) (v := ?_) rfl rfl (by kernel_rfl) (by kernel_rfl) (by kernel_rfl) (fun _ _ _ h => h) (Or.inl ⟨by rfl, ?_⟩) (by assumption) ?_
              rotate_left
              · intro w_ hSw_; (try dsimp only at hSw_); go_simp; (try with_reducible rfl)
              try simp only [Act.put, List.setIfInBounds_toArray, List.set_cons_zero, List.set_cons_succ]
              refine take_op 9 (some 47) (v := ?_) rfl rfl (by kernel_rfl) (by kernel_rfl) (by kernel_rfl) (fun _ _ _ h => h) (Or.inl ⟨by rfl, ?_⟩) (by assumption) ?_
              rotate_left
              · intro w_ hSw_; (try dsimp only at hSw_); go_simp; (try with_reducible rfl)
              try simp only [Act.put, List.setIfInBounds_toArray, List.set_cons_zero, List.set_cons_succ]
              refine take_op 10 (some 48) (v := ?_) rfl rfl (by kernel_rfl) (by kernel_rfl) (by kernel_rfl) (fun _ _ _ h => h) (Or.inl ⟨by rfl, ?_⟩) (by assumption) ?_
              rotate_left
              · intro w_ hSw_; (try dsimp only at hSw_); go_simp; (try with_reducible rfl)
              try simp only [Act.put, List.setIfInBounds_toArray, List.set_cons_zero, List.set_cons_succ]
              refine take_op 11 (some 49) (v := ?_) rfl rfl (by kernel_rfl) (by kernel_rfl) (by kernel_rfl) (fun _ _ _ h => h) (Or.inl ⟨by rfl, ?_⟩) (by assumption) ?_
              rotate_left
              · intro w_ hSw_; (try dsimp only at hSw_); go_simp; (try with_reducible rfl)
              try simp only [Act.put, List.setIfInBounds_toArray, List.set_cons_zero, List.set_cons_succ]
              refine take_op 12 (some 50) (v := ?_) rfl rfl (by kernel_rfl) (by kernel_rfl) (by kernel_rfl) (fun _ _ _ h => h) (Or.inl ⟨by rfl, ?_⟩) (by assumption) ?_
              rotate_left
              · intro w_ hSw_; (try dsimp only at hSw_); go_simp; (try with_reducible rfl)
              try simp only [Act.put, List.setIfInBounds_toArray, List.set_cons_zero, List.set_cons_succ]
              refine take_op 13 (some 51) (v := ?_) rfl rfl (by kernel_rfl) (by kernel_rfl) (by kernel_rfl) (fun _ _ _ h => h) (Or.inl ⟨by rfl, ?_⟩) (by assumption) ?_
              rotate_left
              · intro w_ hSw_; (try dsimp only at hSw_); go_simp; (try with_reducible rfl)
              try simp only [Act.put, List.setIfInBounds_toArray, List.set_cons_zero, List.set_cons_succ]
              refine take_op 14 (some 52) (v := ?_) rfl rfl (by kernel_rfl) (by kernel_rfl) (by kernel_rfl) (fun _ _ _ h => h) (Or.inl ⟨by rfl, ?_⟩) (by assumption) ?_
              rotate_left
              · intro w_ hSw_; (try dsimp only at hSw_); go_simp; (try with_reducible rfl)
              try simp only [Act.put, List.setIfInBounds_toArray, List.set_cons_zero, List.set_cons_succ]
              first | rw [hd2.out] | skip
              refine take_op 15 (some 53) (v := ?_) rfl rfl (by kernel_rfl) (by kernel_rfl) (by kernel_rfl) (fun _ _ _ h => h) (Or.inl ⟨by rfl, ?_⟩) (by assumption) ?_
              rotate_left
              · intro w_ hSw_; (try dsimp only at hSw_); go_simp; (try with_reducible rfl)
              try simp only [Act.put, List.setIfInBounds_toArray, List.set_cons_zero, List.set_cons_succ]
              refine wpAnyH_done (by kernel_rfl) ?_ _
              clear hHeld
              have HIN9 := Lib.hid ((HSORT.out.same HY.out).congr HSTEP.out)
              have hD : Below wi.heap.size wi wi.drew.drew := (Below.refl _ wi).drew.drew
              have HBI9 := Lib.hid (HBI.out.trans (hD.mono HBI.out.size))
              have HOWI9 := Lib.hid (owns_below HOWI.out hD (Nat.le_refl _))
              clear hD
              go_wp2_with fail
              go_roundw
              case rel => exact ⟨i + 1, _, _, by omega, by go_num, rfl, HIN9.out, (by rw [← HMO.out]; omega), (by rw [← HMO.out]; exact HOWI9.out), HBI9.out⟩
              case measure => simp [intOf]; omega
            · have hd2 : Hid (@bne Int instBEqOfDecidableEq y x = true) := Lib.hid (by simpa using hd)
              have HGE : Hid (∀ y, out[k]? = some y → x < y) := Lib.hid (fun z hz => by
                rw [HY.out] at hz
                obtain rfl := Option.some.inj hz
                omega)
              clear hc hd
              go_wp2_with fail
              refine wp_region_held_drew (S := fun w' => w'.cell? ⟨g, k, none⟩ = some (.int .i64 y) ∧ w'.cell? ⟨be, oe + i * 13, none⟩ = some (.int .i64 x)) (by kernel_rfl) ⟨Y0, X0.out⟩ (fun hHeld => ?_)
              refine take_op 0 (some 20) (v := ?_) rfl rfl (by kernel_rfl) (by kernel_rfl) (by kernel_rfl) (fun _ _ _ h => h) (Or.inl ⟨by rfl, ?_⟩) (by assumption) ?_
              rotate_left
              · intro w_ hSw_; (try dsimp only at hSw_); go_simp; (try with_reducible rfl)
              try simp only [Act.put, List.setIfInBounds_toArray, List.set_cons_zero, List.set_cons_succ]
              refine take_op 1 (some 21) (v := ?_) rfl rfl (by kernel_rfl) (by kernel_rfl) (by kernel_rfl) (fun _ _ _ h => h) (Or.inl ⟨by rfl, ?_⟩) (by assumption) ?_
              rotate_left
              · intro w_ hSw_; (try dsimp only at hSw_); go_simp; (try with_reducible rfl)
              try simp only [Act.put, List.setIfInBounds_toArray, List.set_cons_zero, List.set_cons_succ]
              refine take_op 2 (some 22) (v := ?_) rfl rfl (by kernel_rfl) (by kernel_rfl) (by kernel_rfl) (fun _ _ _ h => h) (Or.inl ⟨by rfl, ?_⟩) (by assumption) ?_
              rotate_left
              · intro w_ hSw_; (try dsimp only at hSw_); go_simp; (try with_reducible rfl)
              try simp only [Act.put, List.setIfInBounds_toArray, List.set_cons_zero, List.set_cons_succ]
              refine take_op 3 (some 23) (v := ?_) rfl rfl (by kernel_rfl) (by kernel_rfl) (by kernel_rfl) (fun _ _ _ h => h) (Or.inl ⟨by rfl, ?_⟩) (by assumption) ?_
              rotate_left
              · intro w_ hSw_; (try dsimp only at hSw_); go_simp; (try with_reducible rfl)
              try simp only [Act.put, List.setIfInBounds_toArray, List.set_cons_zero, List.set_cons_succ]
              first | rw [ik.out] | rw [ik9.out] | skip
              refine take_op 4 (some 24) (v := ?_) rfl rfl (by kernel_rfl) (by kernel_rfl) (by kernel_rfl) (fun _ _ _ h => h) (Or.inl ⟨by rfl, ?_⟩) (by assumption) ?_
              rotate_left
              · intro w_ hSw_; (try dsimp only at hSw_); go_simp; (try with_reducible rfl)
              try simp only [Act.put, List.setIfInBounds_toArray, List.set_cons_zero, List.set_cons_succ]
              refine take_op 5 (some 25) (v := ?_) rfl rfl (by kernel_rfl) (by kernel_rfl) (by kernel_rfl) (fun _ _ _ h => h) (Or.inl ⟨by rfl, ?_⟩) (by assumption) ?_
              rotate_left
              · intro w_ hSw_; (try dsimp only at hSw_); go_simp; (try with_reducible rfl)
              try simp only [Act.put, List.setIfInBounds_toArray, List.set_cons_zero, List.set_cons_succ]
              refine take_op 6 (some 26) (v := ?_) rfl rfl (by kernel_rfl) (by kernel_rfl) (by kernel_rfl) (fun _ _ _ h => h) (Or.inl ⟨by rfl, ?_⟩) (by assumption) ?_
              rotate_left
              · intro w_ hSw_; (try dsimp only at hSw_); go_simp; (try with_reducible rfl)
              try simp only [Act.put, List.setIfInBounds_toArray, List.set_cons_zero, List.set_cons_succ]
              refine take_op 7 (some 27) (v := ?_) rfl rfl (by kernel_rfl) (by kernel_rfl) (by kernel_rfl) (fun _ _ _ h => h) (Or.inl ⟨by rfl, ?_⟩) (by assumption) ?_
              rotate_left
              · intro w_ hSw_; (try dsimp only at hSw_); go_simp; (try with_reducible rfl)
              try simp only [Act.put, List.setIfInBounds_toArray, List.set_cons_zero, List.set_cons_succ]
              refine take_op 8 (some 28) (v := ?_) rfl rfl (by kernel_rfl) (by kernel_rfl) (by kernel_rfl) (fun _ _ _ h => h) (Or.inl ⟨by rfl, ?_⟩) (by assumption) ?_
              rotate_left
              · intro w_ hSw_; (try dsimp only at hSw_); go_simp; (try with_reducible rfl)
              try simp only [Act.put, List.setIfInBounds_toArray, List.set_cons_zero, List.set_cons_succ]
              refine take_op 9 (some 29) (v := ?_) rfl rfl (by kernel_rfl) (by kernel_rfl) (by kernel_rfl) (fun _ _ _ h => h) (Or.inl ⟨by rfl, ?_⟩) (by assumption) ?_
              rotate_left
              · intro w_ hSw_; (try dsimp only at hSw_); go_simp; (try with_reducible rfl)
              try simp only [Act.put, List.setIfInBounds_toArray, List.set_cons_zero, List.set_cons_succ]
              refine take_op 10 (some 30) (v := ?_) rfl rfl (by kernel_rfl) (by kernel_rfl) (by kernel_rfl) (fun _ _ _ h => h) (Or.inl ⟨by rfl, ?_⟩) (by assumption) ?_
              rotate_left
              · intro w_ hSw_; (try dsimp only at hSw_); go_simp; (try with_reducible rfl)
              try simp only [Act.put, List.setIfInBounds_toArray, List.set_cons_zero, List.set_cons_succ]
              refine take_op 11 (some 31) (v := ?_) rfl rfl (by kernel_rfl) (by kernel_rfl) (by kernel_rfl) (fun _ _ _ h => h) (Or.inl ⟨by rfl, ?_⟩) (by assumption) ?_
              rotate_left
              · intro w_ hSw_; (try dsimp only at hSw_); go_simp; (try with_reducible rfl)
              try simp only [Act.put, List.setIfInBounds_toArray, List.set_cons_zero, List.set_cons_succ]
              refine take_op 12 (some 32) (v := ?_) rfl rfl (by kernel_rfl) (by kernel_rfl) (by kernel_rfl) (fun _ _ _ h => h) (Or.inl ⟨by rfl, ?_⟩) (by assumption) ?_
              rotate_left
              · intro w_ hSw_; (try dsimp only at hSw_); go_simp; (try with_reducible rfl)
              try simp only [Act.put, List.setIfInBounds_toArray, List.set_cons_zero, List.set_cons_succ]
              refine take_op 13 (some 33) (v := ?_) rfl rfl (by kernel_rfl) (by kernel_rfl) (by kernel_rfl) (fun _ _ _ h => h) (Or.inl ⟨by rfl, ?_⟩) (by assumption) ?_
              rotate_left
              · intro w_ hSw_; (try dsimp only at hSw_); go_simp; (try with_reducible rfl)
              try simp only [Act.put, List.setIfInBounds_toArray, List.set_cons_zero, List.set_cons_succ]
              refine take_op 14 (some 34) (v := ?_) rfl rfl (by kernel_rfl) (by kernel_rfl) (by kernel_rfl) (fun _ _ _ h => h) (Or.inl ⟨by rfl, ?_⟩) (by assumption) ?_
              rotate_left
              · intro w_ hSw_; (try dsimp only at hSw_); go_simp; (try with_reducible rfl)
              try simp only [Act.put, List.setIfInBounds_toArray, List.set_cons_zero, List.set_cons_succ]
              first | rw [hc1.out] | skip
              refine take_op 15 (some 35) (v := ?_) rfl rfl (by kernel_rfl) (by kernel_rfl) (by kernel_rfl) (fun _ _ _ h => h) (Or.inl ⟨by rfl, ?_⟩) (by assumption) ?_
              rotate_left
              · intro w_ hSw_; (try dsimp only at hSw_); go_simp; (try with_reducible rfl)
              try simp only [Act.put, List.setIfInBounds_toArray, List.set_cons_zero, List.set_cons_succ]
              refine wpAnyH_done (by kernel_rfl) ?_ _
              clear hHeld
              go_wp2_with fail
              refine wp_region_held_drew (S := fun w' => w'.cell? ⟨g, k, none⟩ = some (.int .i64 y) ∧ w'.cell? ⟨be, oe + i * 13, none⟩ = some (.int .i64 x)) (by kernel_rfl) ⟨Y0, X0.out⟩ (fun hHeld => ?_)
              refine take_op 0 (some 38) (v := ?_) rfl rfl (by kernel_rfl) (by kernel_rfl) (by kernel_rfl) (fun _ _ _ h => h) (Or.inl ⟨by rfl, ?_⟩) (by assumption) ?_
              rotate_left
              · intro w_ hSw_; (try dsimp only at hSw_); go_simp; (try with_reducible rfl)
              try simp only [Act.put, List.setIfInBounds_toArray, List.set_cons_zero, List.set_cons_succ]
              refine take_op 1 (some 39) (v := ?_) rfl rfl (by kernel_rfl) (by kernel_rfl) (by kernel_rfl) (fun _ _ _ h => h) (Or.inl ⟨by rfl, ?_⟩) (by assumption) ?_
              rotate_left
              · intro w_ hSw_; (try dsimp only at hSw_); go_simp; (try with_reducible rfl)
              try simp only [Act.put, List.setIfInBounds_toArray, List.set_cons_zero, List.set_cons_succ]
              refine take_op 2 (some 40) (v := ?_) rfl rfl (by kernel_rfl) (by kernel_rfl) (by kernel_rfl) (fun _ _ _ h => h) (Or.inl ⟨by rfl, ?_⟩) (by assumption) ?_
              rotate_left
              · intro w_ hSw_; (try dsimp only at hSw_); go_simp; (try with_reducible rfl)
              try simp only [Act.put, List.setIfInBounds_toArray, List.set_cons_zero, List.set_cons_succ]
              refine take_op 3 (some 41) (v := ?_) rfl rfl (by kernel_rfl) (by kernel_rfl) (by kernel_rfl) (fun _ _ _ h => h) (Or.inl ⟨by rfl, ?_⟩) (by assumption) ?_
              rotate_left
              · intro w_ hSw_; (try dsimp only at hSw_); go_simp; (try with_reducible rfl)
              try simp only [Act.put, List.setIfInBounds_toArray, List.set_cons_zero, List.set_cons_succ]
              first | rw [nk.out] | skip
              refine take_op 4 (some 42) (v := ?_) rfl rfl (by kernel_rfl) (by kernel_rfl) (by kernel_rfl) (fun _ _ _ h => h) (Or.inl ⟨by rfl, ?_⟩) (by assumption) ?_
              rotate_left
              · intro w_ hSw_; (try dsimp only at hSw_); go_simp; (try with_reducible rfl)
              try simp only [Act.put, List.setIfInBounds_toArray, List.set_cons_zero, List.set_cons_succ]
              refine take_op 5 (some 43) (v := ?_) rfl rfl (by kernel_rfl) (by kernel_rfl) (by kernel_rfl) (fun _ _ _ h => h) (Or.inl ⟨by rfl, ?_⟩) (by assumption) ?_
              rotate_left
              · intro w_ hSw_; (try dsimp only at hSw_); go_simp; (try with_reducible rfl)
              try simp only [Act.put, List.setIfInBounds_toArray, List.set_cons_zero, List.set_cons_succ]
              refine take_op 6 (some 44) (v := ?_) rfl rfl (by kernel_rfl) (by kernel_rfl) (by kernel_rfl) (fun _ _ _ h => h) (Or.inl ⟨by rfl, ?_⟩) (by assumption) ?_
              rotate_left
              · intro w_ hSw_; (try dsimp only at hSw_); go_simp; (try with_reducible rfl)
              try simp only [Act.put, List.setIfInBounds_toArray, List.set_cons_zero, List.set_cons_succ]
              refine take_op 7 (some 45) (v := ?_) rfl rfl (by kernel_rfl) (by kernel_rfl) (by kernel_rfl) (fun _ _ _ h => h) (Or.inl ⟨by rfl, ?_⟩) (by assumption) ?_
              rotate_left
              · intro w_ hSw_; (try dsimp only at hSw_); go_simp; (try with_reducible rfl)
              try simp only [Act.put, List.setIfInBounds_toArray, List.set_cons_zero, List.set_cons_succ]
              refine take_op 8 (some 46) (v := ?_) rfl rfl (by kernel_rfl) (by kernel_rfl) (by kernel_rfl) (fun _ _ _ h => h) (Or.inl ⟨by rfl, ?_⟩) (by assumption) ?_
              rotate_left
              · intro w_ hSw_; (try dsimp only at hSw_); go_simp; (try with_reducible rfl)
              try simp only [Act.put, List.setIfInBounds_toArray, List.set_cons_zero, List.set_cons_succ]
              refine take_op 9 (some 47) (v := ?_) rfl rfl (by kernel_rfl) (by kernel_rfl) (by kernel_rfl) (fun _ _ _ h => h) (Or.inl ⟨by rfl, ?_⟩) (by assumption) ?_
              rotate_left
              · intro w_ hSw_; (try dsimp only at hSw_); go_simp; (try with_reducible rfl)
              try simp only [Act.put, List.setIfInBounds_toArray, List.set_cons_zero, List.set_cons_succ]
              refine take_op 10 (some 48) (v := ?_) rfl rfl (by kernel_rfl) (by kernel_rfl) (by kernel_rfl) (fun _ _ _ h => h) (Or.inl ⟨by rfl, ?_⟩) (by assumption) ?_
              rotate_left
              · intro w_ hSw_; (try dsimp only at hSw_); go_simp; (try with_reducible rfl)
              try simp only [Act.put, List.setIfInBounds_toArray, List.set_cons_zero, List.set_cons_succ]
              refine take_op 11 (some 49) (v := ?_) rfl rfl (by kernel_rfl) (by kernel_rfl) (by kernel_rfl) (fun _ _ _ h => h) (Or.inl ⟨by rfl, ?_⟩) (by assumption) ?_
              rotate_left
              · intro w_ hSw_; (try dsimp only at hSw_); go_simp; (try with_reducible rfl)
              try simp only [Act.put, List.setIfInBounds_toArray, List.set_cons_zero, List.set_cons_succ]
              refine take_op 12 (some 50) (v := ?_) rfl rfl (by kernel_rfl) (by kernel_rfl) (by kernel_rfl) (fun _ _ _ h => h) (Or.inl ⟨by rfl, ?_⟩) (by assumption) ?_
              rotate_left
              · intro w_ hSw_; (try dsimp only at hSw_); go_simp; (try with_reducible rfl)
              try simp only [Act.put, List.setIfInBounds_toArray, List.set_cons_zero, List.set_cons_succ]
              refine take_op 13 (some 51) (v := ?_) rfl rfl (by kernel_rfl) (by kernel_rfl) (by kernel_rfl) (fun _ _ _ h => h) (Or.inl ⟨by rfl, ?_⟩) (by assumption) ?_
              rotate_left
              · intro w_ hSw_; (try dsimp only at hSw_); go_simp; (try with_reducible rfl)
              try simp only [Act.put, List.setIfInBounds_toArray, List.set_cons_zero, List.set_cons_succ]
              refine take_op 14 (some 52) (v := ?_) rfl rfl (by kernel_rfl) (by kernel_rfl) (by kernel_rfl) (fun _ _ _ h => h) (Or.inl ⟨by rfl, ?_⟩) (by assumption) ?_
              rotate_left
              · intro w_ hSw_; (try dsimp only at hSw_); go_simp; (try with_reducible rfl)
              try simp only [Act.put, List.setIfInBounds_toArray, List.set_cons_zero, List.set_cons_succ]
              first | rw [hd2.out] | skip
              refine take_op 15 (some 53) (v := ?_) rfl rfl (by kernel_rfl) (by kernel_rfl) (by kernel_rfl) (fun _ _ _ h => h) (Or.inl ⟨by rfl, ?_⟩) (by assumption) ?_
              rotate_left
              · intro w_ hSw_; (try dsimp only at hSw_); go_simp; (try with_reducible rfl)
              try simp only [Act.put, List.setIfInBounds_toArray, List.set_cons_zero, List.set_cons_succ]
              refine wpAnyH_done (by kernel_rfl) ?_ _
              clear hHeld
              clear Y0
              have hD : Below wi.heap.size wi wi.drew.drew := (Below.refl _ wi).drew.drew
              have HBI9 := Lib.hid (HBI.out.trans (hD.mono HBI.out.size))
              have X09 := Lib.hid ((hD.cell (p := ⟨be, oe + i * 13, none⟩) HBX.out).trans X0.out)
              have HBX9 : Hid (be < wi.drew.drew.heap.size) := Lib.hid (Nat.lt_of_lt_of_le HBX.out hD.size)
              have HOWI9 := Lib.hid (owns_below HOWI.out hD (Nat.le_refl _))
              have SRC19 := Lib.hid (SRC1.out.below hD)
              have SRC29 := Lib.hid (SRC2.out.below hD)
              clear hD HBI X0 HBX HOWI SRC1 HBW SRC2
              revert HBI9 X09 HBX9 HOWI9 SRC19 SRC29
              generalize wi.drew.drew = wi
              intro HBI X0 HBX HOWI SRC1 SRC2
              go_wp2_with fail
              refine wp_region_held_drew (S := fun w' => Below wi.heap.size wi w') (by kernel_rfl) (Below.refl _ wi).drew (fun hHeld => ?_)
              refine take_op 1 (some 55) (v := ?_) rfl rfl (by kernel_rfl) (by kernel_rfl) (by kernel_rfl) (fun _ _ _ h => h) (Or.inl ⟨by rfl, ?_⟩) (by assumption) ?_
              rotate_left
              · intro w_ hSw_; (try dsimp only at hSw_); go_simp; (try with_reducible rfl)
              try simp only [Act.put, List.setIfInBounds_toArray, List.set_cons_zero, List.set_cons_succ]
              refine take_op 2 (some 56) (v := ?_) rfl rfl (by kernel_rfl) (by kernel_rfl) (by kernel_rfl) (fun _ _ _ h => h) (Or.inl ⟨by rfl, ?_⟩) (by assumption) ?_
              rotate_left
              · intro w_ hSw_; (try dsimp only at hSw_); go_simp; (try with_reducible rfl)
              try simp only [Act.put, List.setIfInBounds_toArray, List.set_cons_zero, List.set_cons_succ]
              refine take_op 3 (some 57) (v := ?_) rfl rfl (by kernel_rfl) (by kernel_rfl) (by kernel_rfl) (fun _ _ _ h => h) (Or.inl ⟨by rfl, ?_⟩) (by assumption) ?_
              rotate_left
              · intro w_ hSw_; (try dsimp only at hSw_); go_simp; (try with_reducible rfl)
              try simp only [Act.put, List.setIfInBounds_toArray, List.set_cons_zero, List.set_cons_succ]
              refine take_op 5 (some 59) (v := ?_) rfl rfl (by kernel_rfl) (by kernel_rfl) (by kernel_rfl) (fun _ _ _ h => h) (Or.inl ⟨by rfl, ?_⟩) (by assumption) ?_
              rotate_left
              · intro w_ hSw_; (try dsimp only at hSw_); go_simp; (try with_reducible rfl)
              try simp only [Act.put, List.setIfInBounds_toArray, List.set_cons_zero, List.set_cons_succ]
              refine take_op 6 (some 60) (v := ?_) rfl rfl (by kernel_rfl) (by kernel_rfl) (by kernel_rfl) (fun _ _ _ h => h) (Or.inl ⟨by rfl, ?_⟩) (by assumption) ?_
              rotate_left
              · intro w_ hSw_; (try dsimp only at hSw_); go_simp; (try with_reducible rfl)
              try simp only [Act.put, List.setIfInBounds_toArray, List.set_cons_zero, List.set_cons_succ]
              refine take_op 7 (some 61) (v := ?_) rfl rfl (by kernel_rfl) (by kernel_rfl) (by kernel_rfl) (fun _ _ _ h => h) (Or.inl ⟨by rfl, ?_⟩) (by assumption) ?_
              rotate_left
              · intro w_ hSw_; (try dsimp only at hSw_); go_simp; (try with_reducible rfl)
              try simp only [Act.put, List.setIfInBounds_toArray, List.set_cons_zero, List.set_cons_succ]
              refine take_op 8 (some 62) (v := ?_) rfl rfl (by kernel_rfl) (by kernel_rfl) (by kernel_rfl) (fun _ _ _ h => h) (Or.inl ⟨by rfl, ?_⟩) (by assumption) ?_
              rotate_left
              · intro w_ hSw_; (try dsimp only at hSw_); go_simp; (try with_reducible rfl)
              try simp only [Act.put, List.setIfInBounds_toArray, List.set_cons_zero, List.set_cons_succ]
              refine take_op 9 (some 63) (v := .int .i64 x) rfl rfl (by kernel_rfl) (by kernel_rfl) (by kernel_rfl) (fun _ _ _ h => h) (Or.inl ⟨by rfl, ?_⟩) (by assumption) ?_
              · intro w_ hSw_
                have c0 := (hSw_.cell (p := ⟨be, oe + i * 13, none⟩) HBX.out).trans X0.out
                go_simp
                try rfl
              try simp only [Act.put, List.setIfInBounds_toArray, List.set_cons_zero, List.set_cons_succ]
              refine take_op 12 (some 66) (v := ?_) rfl rfl (by kernel_rfl) (by kernel_rfl) (by kernel_rfl) (fun _ _ _ h => h) (Or.inl ⟨by rfl, ?_⟩) (by assumption) ?_
              rotate_left
              · intro w_ hSw_; (try dsimp only at hSw_); go_simp; (try with_reducible rfl)
              try simp only [Act.put, List.setIfInBounds_toArray, List.set_cons_zero, List.set_cons_succ]
              refine take_op 13 (some 67) (v := ?_) rfl rfl (by kernel_rfl) (by kernel_rfl) (by kernel_rfl) (fun _ _ _ h => h) (Or.inl ⟨by rfl, ?_⟩) (by assumption) ?_
              rotate_left
              · intro w_ hSw_; (try dsimp only at hSw_); go_simp; (try with_reducible rfl)
              try simp only [Act.put, List.setIfInBounds_toArray, List.set_cons_zero, List.set_cons_succ]
              refine take_op 14 (some 68) (v := ?_) rfl rfl (by kernel_rfl) (by kernel_rfl) (by kernel_rfl) (fun _ _ _ h => h) (Or.inl ⟨by rfl, ?_⟩) (by assumption) ?_
              rotate_left
              · intro w_ hSw_; (try dsimp only at hSw_); go_simp; (try with_reducible rfl)
              try simp only [Act.put, List.setIfInBounds_toArray, List.set_cons_zero, List.set_cons_succ]
              refine wpAnyH_tab (fun w' => Below wi.heap.size wi w') [0, 4, 10] 3 [(0, 54, .newr wi.heap.size #[] 3), (4, 58, .ownk wi.heap.size 3 1 k ((out.take k).flatMap encI)), (10, 64, .rowk 1 #[.int .i64 x] 3)] rfl rfl (by kernel_rfl) (fun _ h => h) (fun w1 w2 h hb => h.trans (hb.mono h.size)) hHeld ?_ ?_
              · skip
                refine InvSteps.cons rfl (fun xs_ wv hSv hr_ A_ hA_ K_ hK_ => ?_) ?_
                · skip
                  simp only [putAll, List.foldl, List.map, Act.put, List.setIfInBounds_toArray, List.set_cons_zero, List.set_cons_succ] at hA_
                  subst hA_
                  go_simp
                  exact hK_.out _ _ _ rfl ⟨_, rfl, hSv.size, Blk.new _ _ _⟩ ((Below.refl _ _).alloc (Nat.le_refl _) _)
                refine InvSteps.cons rfl (fun xs_ wv hSv hr_ A_ hA_ K_ hK_ => ?_) ?_
                · skip
                  obtain ⟨b0, e0, N0, B0⟩ := hr_ 0 (by kernel_rfl)
                  simp only [e0, putAll, List.foldl, List.map, Act.put, List.setIfInBounds_toArray, List.set_cons_zero, List.set_cons_succ] at hA_
                  subst hA_
                  refine step_appRowsFresh sl_int int_info rfl (by decide) encI_len encI_one (by decide) rfl rfl rfl b0 wi.heap.size N0 B0 (out.take k) (some ⟨g, 0, none⟩) k cap (by rw [List.length_take, ← HMO.out]; try omega) (SRC1.out.below hSv) (by have := HLE.out; omega) rfl rfl ?_
                  intro v' w' hown hb
                  exact hK_.out _ _ _ rfl hown hb
                refine InvSteps.cons rfl (fun xs_ wv hSv hr_ A_ hA_ K_ hK_ => ?_) ?_
                · skip
                  simp only [putAll, List.foldl, List.map, Act.put, List.setIfInBounds_toArray, List.set_cons_zero, List.set_cons_succ] at hA_
                  subst hA_
                  go_simp
                  exact hK_.out _ _ _ rfl ⟨_, rfl, Blk.new _ _ _⟩ ((Below.refl _ _).alloc (Nat.le_refl _) _)
                exact InvSteps.nil
              intro xs_ wv hSv hr_ A_ hA_
              have O4 : wv.ownsRow wi.heap.size 3 1 (xs_ 4) k ((out.take k).flatMap encI) := hr_ 4
              obtain ⟨b0, e0, N0, B0⟩ := hr_ 0
              obtain ⟨b10, e10, B10⟩ := hr_ 10
              simp only [e0, e10, putAll, List.foldl, List.map, Act.put, List.setIfInBounds_toArray, List.set_cons_zero, List.set_cons_succ] at hA_
              subst hA_
              clear hr_ e0 B0 N0 e10
              generalize xs_ 4 = v4 at O4
              refine go_op 11 rfl (by kernel_rfl) (fun K_ hK_ => ?_)
              refine step_appRows sl_int int_info rfl (by decide) encI_len encI_one (by decide) rfl rfl rfl wi.heap.size v4 k (out.take k) [x] (some ⟨b10, 0, none⟩) 1 1 rfl O4 (SrcAt.one B10 rfl) (by have := HLE.out; omega) hSv.size rfl rfl ?_
              intro v7 w8 o7 g7 hv7
              have hb8 := hSv.trans (below_grown g7 hSv.size (fun k hk => owns_block O4 k hk))
              try simp only [Act.put, List.setIfInBounds_toArray, List.set_cons_zero, List.set_cons_succ]
              refine hK_.out _ _ hb8 (fun hHeld_ => ?_)
              refine go_op 15 rfl (by kernel_rfl) (fun K_ hK_ => ?_)
              refine step_appRows sl_int int_info rfl (by decide) encI_len encI_one (by decide) rfl rfl rfl wi.heap.size v7 (k + 1) (out.take k ++ [x]) (out.drop k) (some ⟨g, k, none⟩) (m - k) (cap - k) (by rw [List.length_drop, ← HMO.out]; try omega) o7 (SRC2.out.below hb8) (by have := HLE.out; omega) hb8.size rfl rfl ?_
              intro v8 w9 o8 g8 hv8
              have hb9 := hb8.trans (below_grown g8 hb8.size (fun k hk => owns_block o7 k hk))
              try simp only [Act.put, List.setIfInBounds_toArray, List.set_cons_zero, List.set_cons_succ]
              refine hK_.out _ _ hb9 (fun hHeld_ => ?_)
              refine take_op 16 (some 5) (v := ?_) rfl rfl (by kernel_rfl) (by kernel_rfl) (by kernel_rfl) (fun _ _ _ h => h) (Or.inl ⟨by rfl, ?_⟩) (by assumption) ?_
              rotate_left
              · intro w_ hSw_; (try dsimp only at hSw_); go_simp; (try with_reducible rfl)
              try simp only [Act.put, List.setIfInBounds_toArray, List.set_cons_zero, List.set_cons_succ]
              refine wpAnyH_done (by kernel_rfl) ?_ _
              have hins := HSORT.out.ins (x := x) (k := k) HLT.out HGE.out
              have hlen : (out.take k ++ [x] ++ out.drop k).length = k + 1 + (m - k) := by rw [List.length_append, List.length_append, List.length_take, List.length_drop, ← HMO.out, List.length_singleton]; try omega
              have HB9 := Lib.hid hb9
              have hO9 : w9.ownsRow w6.heap.size 3 1 v8 (out.take k ++ [x] ++ out.drop k).length ((out.take k ++ [x] ++ out.drop k).flatMap encI) := by rw [hlen]; exact owns_rebase o8 HBI.out.size
              have HO9 := Lib.hid hO9
              have HIN9 := Lib.hid (hins.congr HSTEP.out)
              have HLEN9 := Lib.hid hlen
              clear hHeld hHeld_ o7 o8 g7 g8 hv7 hv8 hb8 hb9 hO9 hins hlen O4 B10 hSv
              go_wp2_with fail
              go_roundw
              case rel => exact ⟨i + 1, _, v8, by omega, by go_num, rfl, HIN9.out, (by rw [HLEN9.out]; have := HLE.out; have := HMO.out; omega), HO9.out, HBI.out.trans (HB9.out.mono HBI.out.size)⟩
              case measure => simp [intOf]; omega
        · have g2 : ¬ (k : Int) < (m : Int) := by omega
          have hkm2 : k = m := by omega
          subst hkm2
          have HGE : Hid (∀ y, out[k]? = some y → x < y) := Lib.hid (fun y hy => by
            have := (List.getElem?_eq_some_iff.1 hy).1
            have := HMO.out
            omega)
          have SRCD : Hid (out.drop k = []) := Lib.hid (by rw [HMO.out]; exact List.drop_length)
          rcases own_ad' HOWI.out with ⟨h0, rfl, rfl⟩ | ⟨g, rfl, _⟩
          · subst h0
            have SRC2 : Hid (SrcAt encI 1 wi none (out.drop 0)) := Lib.hid (by rw [SRCD.out]; exact fun h => by simp at h)
            go_wp2_with fail
            refine wp_region_held_drew (S := fun _ => True) (by kernel_rfl) trivial (fun hHeld => ?_)
            refine take_op 0 (some 20) (v := ?_) rfl rfl (by kernel_rfl) (by kernel_rfl) (by kernel_rfl) (fun _ _ _ h => h) (Or.inl ⟨by rfl, ?_⟩) (by assumption) ?_
            rotate_left
            · intro w_ hSw_; (try dsimp only at hSw_); go_simp; (try with_reducible rfl)
            try simp only [Act.put, List.setIfInBounds_toArray, List.set_cons_zero, List.set_cons_succ]
            refine take_op 1 (some 21) (v := ?_) rfl rfl (by kernel_rfl) (by kernel_rfl) (by kernel_rfl) (fun _ _ _ h => h) (Or.inl ⟨by rfl, ?_⟩) (by assumption) ?_
            rotate_left
            · intro w_ hSw_; (try dsimp only at hSw_); go_simp; (try with_reducible rfl)
            try simp only [Act.put, List.setIfInBounds_toArray, List.set_cons_zero, List.set_cons_succ]
            refine take_op 2 (some 22) (v := ?_) rfl rfl (by kernel_rfl) (by kernel_rfl) (by kernel_rfl) (fun _ _ _ h => h) (Or.inl ⟨by rfl, ?_⟩) (by assumption) ?_
            rotate_left
            · intro w_ hSw_; (try dsimp only at hSw_); go_simp; (try with_reducible rfl)
            try simp only [Act.put, List.setIfInBounds_toArray, List.set_cons_zero, List.set_cons_succ]
            refine take_op 3 (some 23) (v := ?_) rfl rfl (by kernel_rfl) (by kernel_rfl) (by kernel_rfl) (fun _ _ _ h => h) (Or.inl ⟨by rfl, ?_⟩) (by assumption) ?_
            rotate_left
            · intro w_ hSw_; (try dsimp only at hSw_); go_simp; (try with_reducible rfl)
            try simp only [Act.put, List.setIfInBounds_toArray, List.set_cons_zero, List.set_cons_succ]
            refine take_op 4 (some 24) (v := ?_) rfl rfl (by kernel_rfl) (by kernel_rfl) (by kernel_rfl) (fun _ _ _ h => h) (Or.inl ⟨by rfl, ?_⟩) (by assumption) ?_
            rotate_left
            · intro w_ hSw_; (try dsimp only at hSw_); go_simp; (try with_reducible rfl)
            try simp only [Act.put, List.setIfInBounds_toArray, List.set_cons_zero, List.set_cons_succ]
            refine take_op 5 (some 25) rfl rfl (by kernel_rfl) (by kernel_rfl) (by kernel_rfl) (fun _ _ _ h => h) (Or.inr ⟨by rfl, rfl⟩) (by assumption) ?_
            try simp only [Act.put, List.setIfInBounds_toArray, List.set_cons_zero, List.set_cons_succ]
            refine take_op 6 (some 26) rfl rfl (by kernel_rfl) (by kernel_rfl) (by kernel_rfl) (fun _ _ _ h => h) (Or.inr ⟨by rfl, rfl⟩) (by assumption) ?_
            try simp only [Act.put, List.setIfInBounds_toArray, List.set_cons_zero, List.set_cons_succ]
            refine take_op 7 (some 27) rfl rfl (by kernel_rfl) (by kernel_rfl) (by kernel_rfl) (fun _ _ _ h => h) (Or.inr ⟨by rfl, rfl⟩) (by assumption) ?_
            try simp only [Act.put, List.setIfInBounds_toArray, List.set_cons_zero, List.set_cons_succ]
            refine take_op 8 (some 28) rfl rfl (by kernel_rfl) (by kernel_rfl) (by kernel_rfl) (fun _ _ _ h => h) (Or.inr ⟨by rfl, rfl⟩) (by assumption) ?_
            try simp only [Act.put, List.setIfInBounds_toArray, List.set_cons_zero, List.set_cons_succ]
            refine take_op 9 (some 29) rfl rfl (by kernel_rfl) (by kernel_rfl) (by kernel_rfl) (fun _ _ _ h => h) (Or.inr ⟨by rfl, rfl⟩) (by assumption) ?_
            try simp only [Act.put, List.setIfInBounds_toArray, List.set_cons_zero, List.set_cons_succ]
            refine take_op 10 (some 30) rfl rfl (by kernel_rfl) (by kernel_rfl) (by kernel_rfl) (fun _ _ _ h => h) (Or.inr ⟨by rfl, rfl⟩) (by assumption) ?_
            try simp only [Act.put, List.setIfInBounds_toArray, List.set_cons_zero, List.set_cons_succ]
            refine take_op 11 (some 31) rfl rfl (by kernel_rfl) (by kernel_rfl) (by kernel_rfl) (fun _ _ _ h => h) (Or.inr ⟨by rfl, rfl⟩) (by assumption) ?_
            try simp only [Act.put, List.setIfInBounds_toArray, List.set_cons_zero, List.set_cons_succ]
            refine take_op 12 (some 32) rfl rfl (by kernel_rfl) (by kernel_rfl) (by kernel_rfl) (fun _ _ _ h => h) (Or.inr ⟨by rfl, rfl⟩) (by assumption) ?_
            try simp only [Act.put, List.setIfInBounds_toArray, List.set_cons_zero, List.set_cons_succ]
            refine take_op 13 (some 33) rfl rfl (by kernel_rfl) (by kernel_rfl) (by kernel_rfl) (fun _ _ _ h => h) (Or.inr ⟨by rfl, rfl⟩) (by assumption) ?_
            try simp only [Act.put, List.setIfInBounds_toArray, List.set_cons_zero, List.set_cons_succ]
            refine take_op 14 (some 34) rfl rfl (by kernel_rfl) (by kernel_rfl) (by kernel_rfl) (fun _ _ _ h => h) (Or.inr ⟨by rfl, rfl⟩) (by assumption) ?_
            try simp only [Act.put, List.setIfInBounds_toArray, List.set_cons_zero, List.set_cons_succ]
            refine take_op 15 (some 35) (v := ?_) rfl rfl (by kernel_rfl) (by kernel_rfl) (by kernel_rfl) (fun _ _ _ h => h) (Or.inl ⟨by rfl, ?_⟩) (by assumption) ?_
            rotate_left
            · intro w_ hSw_; (try dsimp only at hSw_); go_simp; (try with_reducible rfl)
            try simp only [Act.put, List.setIfInBounds_toArray, List.set_cons_zero, List.set_cons_succ]
            refine wpAnyH_done (by kernel_rfl) ?_ _
            clear hHeld
            go_wp2_with fail
            refine wp_region_held_drew (S := fun _ => True) (by kernel_rfl) trivial (fun hHeld => ?_)
            refine take_op 0 (some 38) (v := ?_) rfl rfl (by kernel_rfl) (by kernel_rfl) (by kernel_rfl) (fun _ _ _ h => h) (Or.inl ⟨by rfl, ?_⟩) (by assumption) ?_
            rotate_left
            · intro w_ hSw_; (try dsimp only at hSw_); go_simp; (try with_reducible rfl)
            try simp only [Act.put, List.setIfInBounds_toArray, List.set_cons_zero, List.set_cons_succ]
            refine take_op 1 (some 39) (v := ?_) rfl rfl (by kernel_rfl) (by kernel_rfl) (by kernel_rfl) (fun _ _ _ h => h) (Or.inl ⟨by rfl, ?_⟩) (by assumption) ?_
            rotate_left
            · intro w_ hSw_; (try dsimp only at hSw_); go_simp; (try with_reducible rfl)
            try simp only [Act.put, List.setIfInBounds_toArray, List.set_cons_zero, List.set_cons_succ]
            refine take_op 2 (some 40) (v := ?_) rfl rfl (by kernel_rfl) (by kernel_rfl) (by kernel_rfl) (fun _ _ _ h => h) (Or.inl ⟨by rfl, ?_⟩) (by assumption) ?_
            rotate_left
            · intro w_ hSw_; (try dsimp only at hSw_); go_simp; (try with_reducible rfl)
            try simp only [Act.put, List.setIfInBounds_toArray, List.set_cons_zero, List.set_cons_succ]
            refine take_op 3 (some 41) (v := ?_) rfl rfl (by kernel_rfl) (by kernel_rfl) (by kernel_rfl) (fun _ _ _ h => h) (Or.inl ⟨by rfl, ?_⟩) (by assumption) ?_
            rotate_left
            · intro w_ hSw_; (try dsimp only at hSw_); go_simp; (try with_reducible rfl)
            try simp only [Act.put, List.setIfInBounds_toArray, List.set_cons_zero, List.set_cons_succ]
            refine take_op 4 (some 42) (v := ?_) rfl rfl (by kernel_rfl) (by kernel_rfl) (by kernel_rfl) (fun _ _ _ h => h) (Or.inl ⟨by rfl, ?_⟩) (by assumption) ?_
            rotate_left
            · intro w_ hSw_; (try dsimp only at hSw_); go_simp; (try with_reducible rfl)
            try simp only [Act.put, List.setIfInBounds_toArray, List.set_cons_zero, List.set_cons_succ]
            refine take_op 5 (some 43) rfl rfl (by kernel_rfl) (by kernel_rfl) (by kernel_rfl) (fun _ _ _ h => h) (Or.inr ⟨by rfl, rfl⟩) (by assumption) ?_
            try simp only [Act.put, List.setIfInBounds_toArray, List.set_cons_zero, List.set_cons_succ]
            refine take_op 6 (some 44) rfl rfl (by kernel_rfl) (by kernel_rfl) (by kernel_rfl) (fun _ _ _ h => h) (Or.inr ⟨by rfl, rfl⟩) (by assumption) ?_
            try simp only [Act.put, List.setIfInBounds_toArray, List.set_cons_zero, List.set_cons_succ]
            refine take_op 7 (some 45) rfl rfl (by kernel_rfl) (by kernel_rfl) (by kernel_rfl) (fun _ _ _ h => h) (Or.inr ⟨by rfl, rfl⟩) (by assumption) ?_
            try simp only [Act.put, List.setIfInBounds_toArray, List.set_cons_zero, List.set_cons_succ]
            refine take_op 8 (some 46) rfl rfl (by kernel_rfl) (by kernel_rfl) (by kernel_rfl) (fun _ _ _ h => h) (Or.inr ⟨by rfl, rfl⟩) (by assumption) ?_
            try simp only [Act.put, List.setIfInBounds_toArray, List.set_cons_zero, List.set_cons_succ]
            refine take_op 9 (some 47) rfl rfl (by kernel_rfl) (by kernel_rfl) (by kernel_rfl) (fun _ _ _ h => h) (Or.inr ⟨by rfl, rfl⟩) (by assumption) ?_
            try simp only [Act.put, List.setIfInBounds_toArray, List.set_cons_zero, List.set_cons_succ]
            refine take_op 10 (some 48) rfl rfl (by kernel_rfl) (by kernel_rfl) (by kernel_rfl) (fun _ _ _ h => h) (Or.inr ⟨by rfl, rfl⟩) (by assumption) ?_
            try simp only [Act.put, List.setIfInBounds_toArray, List.set_cons_zero, List.set_cons_succ]
            refine take_op 11 (some 49) rfl rfl (by kernel_rfl) (by kernel_rfl) (by kernel_rfl) (fun _ _ _ h => h) (Or.inr ⟨by rfl, rfl⟩) (by assumption) ?_
            try simp only [Act.put, List.setIfInBounds_toArray, List.set_cons_zero, List.set_cons_succ]
            refine take_op 12 (some 50) rfl rfl (by kernel_rfl) (by kernel_rfl) (by kernel_rfl) (fun _ _ _ h => h) (Or.inr ⟨by rfl, rfl⟩) (by assumption) ?_
            try simp only [Act.put, List.setIfInBounds_toArray, List.set_cons_zero, List.set_cons_succ]
            refine take_op 13 (some 51) rfl rfl (by kernel_rfl) (by kernel_rfl) (by kernel_rfl) (fun _ _ _ h => h) (Or.inr ⟨by rfl, rfl⟩) (by assumption) ?_
            try simp only [Act.put, List.setIfInBounds_toArray, List.set_cons_zero, List.set_cons_succ]
            refine take_op 14 (some 52) rfl rfl (by kernel_rfl) (by kernel_rfl) (by kernel_rfl) (fun _ _ _ h => h) (Or.inr ⟨by rfl, rfl⟩) (by assumption) ?_
            try simp only [Act.put, List.setIfInBounds_toArray, List.set_cons_zero, List.set_cons_succ]
            refine take_op 15 (some 53) (v := ?_) rfl rfl (by kernel_rfl) (by kernel_rfl) (by kernel_rfl) (fun _ _ _ h => h) (Or.inl ⟨by rfl, ?_⟩) (by assumption) ?_
            rotate_left
            · intro w_ hSw_; (try dsimp only at hSw_); go_simp; (try with_reducible rfl)
            try simp only [Act.put, List.setIfInBounds_toArray, List.set_cons_zero, List.set_cons_succ]
            refine wpAnyH_done (by kernel_rfl) ?_ _
            clear hHeld
            have hD : Below wi.heap.size wi wi.drew.drew := (Below.refl _ wi).drew.drew
            have HBI9 := Lib.hid (HBI.out.trans (hD.mono HBI.out.size))
            have X09 := Lib.hid ((hD.cell (p := ⟨be, oe + i * 13, none⟩) HBX.out).trans X0.out)
            have HBX9 : Hid (be < wi.drew.drew.heap.size) := Lib.hid (Nat.lt_of_lt_of_le HBX.out hD.size)
            have HOWI9 := Lib.hid (owns_below HOWI.out hD (Nat.le_refl _))
            have SRC19 := Lib.hid (SRC1.out.below hD)
            have SRC29 := Lib.hid (SRC2.out.below hD)
            clear hD HBI X0 HBX HOWI SRC1 HBW SRC2
            revert HBI9 X09 HBX9 HOWI9 SRC19 SRC29
            generalize wi.drew.drew = wi
            intro HBI X0 HBX HOWI SRC1 SRC2
            go_wp2_with fail
            refine wp_region_held_drew (S := fun w' => Below wi.heap.size wi w') (by kernel_rfl) (Below.refl _ wi).drew (fun hHeld => ?_)
            refine take_op 1 (some 55) (v := ?_) rfl rfl (by kernel_rfl) (by kernel_rfl) (by kernel_rfl) (fun _ _ _ h => h) (Or.inl ⟨by rfl, ?_⟩) (by assumption) ?_
            rotate_left
            · intro w_ hSw_; (try dsimp only at hSw_); go_simp; (try with_reducible rfl)
            try simp only [Act.put, List.setIfInBounds_toArray, List.set_cons_zero, List.set_cons_succ]
            refine take_op 2 (some 56) (v := ?_) rfl rfl (by kernel_rfl) (by kernel_rfl) (by kernel_rfl) (fun _ _ _ h => h) (Or.inl ⟨by rfl, ?_⟩) (by assumption) ?_
            rotate_left
            · intro w_ hSw_; (try dsimp only at hSw_); go_simp; (try with_reducible rfl)
            try simp only [Act.put, List.setIfInBounds_toArray, List.set_cons_zero, List.set_cons_succ]
            refine take_op 3 (some 57) (v := ?_) rfl rfl (by kernel_rfl) (by kernel_rfl) (by kernel_rfl) (fun _ _ _ h => h) (Or.inl ⟨by rfl, ?_⟩) (by assumption) ?_
            rotate_left
            · intro w_ hSw_; (try dsimp only at hSw_); go_simp; (try with_reducible rfl)
            try simp only [Act.put, List.setIfInBounds_toArray, List.set_cons_zero, List.set_cons_succ]
            refine take_op 5 (some 59) (v := ?_) rfl rfl (by kernel_rfl) (by kernel_rfl) (by kernel_rfl) (fun _ _ _ h => h) (Or.inl ⟨by rfl, ?_⟩) (by assumption) ?_
            rotate_left
            · intro w_ hSw_; (try dsimp only at hSw_); go_simp; (try with_reducible rfl)
            try simp only [Act.put, List.setIfInBounds_toArray, List.set_cons_zero, List.set_cons_succ]
            refine take_op 6 (some 60) (v := ?_) rfl rfl (by kernel_rfl) (by kernel_rfl) (by kernel_rfl) (fun _ _ _ h => h) (Or.inl ⟨by rfl, ?_⟩) (by assumption) ?_
            rotate_left
            · intro w_ hSw_; (try dsimp only at hSw_); go_simp; (try with_reducible rfl)
            try simp only [Act.put, List.setIfInBounds_toArray, List.set_cons_zero, List.set_cons_succ]
            refine take_op 7 (some 61) (v := ?_) rfl rfl (by kernel_rfl) (by kernel_rfl) (by kernel_rfl) (fun _ _ _ h => h) (Or.inl ⟨by rfl, ?_⟩) (by assumption) ?_
            rotate_left
            · intro w_ hSw_; (try dsimp only at hSw_); go_simp; (try with_reducible rfl)
            try simp only [Act.put, List.setIfInBounds_toArray, List.set_cons_zero, List.set_cons_succ]
            refine take_op 8 (some 62) (v := ?_) rfl rfl (by kernel_rfl) (by kernel_rfl) (by kernel_rfl) (fun _ _ _ h => h) (Or.inl ⟨by rfl, ?_⟩) (by assumption) ?_
            rotate_left
            · intro w_ hSw_; (try dsimp only at hSw_); go_simp; (try with_reducible rfl)
            try simp only [Act.put, List.setIfInBounds_toArray, List.set_cons_zero, List.set_cons_succ]
            refine take_op 9 (some 63) (v := .int .i64 x) rfl rfl (by kernel_rfl) (by kernel_rfl) (by kernel_rfl) (fun _ _ _ h => h) (Or.inl ⟨by rfl, ?_⟩) (by assumption) ?_
            · intro w_ hSw_
              have c0 := (hSw_.cell (p := ⟨be, oe + i * 13, none⟩) HBX.out).trans X0.out
              go_simp
              try rfl
            try simp only [Act.put, List.setIfInBounds_toArray, List.set_cons_zero, List.set_cons_succ]
            refine take_op 12 (some 66) (v := ?_) rfl rfl (by kernel_rfl) (by kernel_rfl) (by kernel_rfl) (fun _ _ _ h => h) (Or.inl ⟨by rfl, ?_⟩) (by assumption) ?_
            rotate_left
            · intro w_ hSw_; (try dsimp only at hSw_); go_simp; (try with_reducible rfl)
            try simp only [Act.put, List.setIfInBounds_toArray, List.set_cons_zero, List.set_cons_succ]
            refine take_op 13 (some 67) (v := ?_) rfl rfl (by kernel_rfl) (by kernel_rfl) (by kernel_rfl) (fun _ _ _ h => h) (Or.inl ⟨by rfl, ?_⟩) (by assumption) ?_
            rotate_left
            · intro w_ hSw_; (try dsimp only at hSw_); go_simp; (try with_reducible rfl)
            try simp only [Act.put, List.setIfInBounds_toArray, List.set_cons_zero, List.set_cons_succ]
            refine take_op 14 (some 68) (v := ?_) rfl rfl (by kernel_rfl) (by kernel_rfl) (by kernel_rfl) (fun _ _ _ h => h) (Or.inl ⟨by rfl, ?_⟩) (by assumption) ?_
            rotate_left
            · intro w_ hSw_; (try dsimp only at hSw_); go_simp; (try with_reducible rfl)
            try simp only [Act.put, List.setIfInBounds_toArray, List.set_cons_zero, List.set_cons_succ]
            refine wpAnyH_tab (fun w' => Below wi.heap.size wi w') [0, 4, 10] 3 [(0, 54, .newr wi.heap.size #[] 3), (4, 58, .ownk wi.heap.size 3 1 0 ((out.take 0).flatMap encI)), (10, 64, .rowk 1 #[.int .i64 x] 3)] rfl rfl (by kernel_rfl) (fun _ h => h) (fun w1 w2 h hb => h.trans (hb.mono h.size)) hHeld ?_ ?_
            · skip
              refine InvSteps.cons rfl (fun xs_ wv hSv hr_ A_ hA_ K_ hK_ => ?_) ?_
              · skip
                simp only [putAll, List.foldl, List.map, Act.put, List.setIfInBounds_toArray, List.set_cons_zero, List.set_cons_succ] at hA_
                subst hA_
                go_simp
                exact hK_.out _ _ _ rfl ⟨_, rfl, hSv.size, Blk.new _ _ _⟩ ((Below.refl _ _).alloc (Nat.le_refl _) _)
              refine InvSteps.cons rfl (fun xs_ wv hSv hr_ A_ hA_ K_ hK_ => ?_) ?_
              · skip
                obtain ⟨b0, e0, N0, B0⟩ := hr_ 0 (by kernel_rfl)
                simp only [e0, putAll, List.foldl, List.map, Act.put, List.setIfInBounds_toArray, List.set_cons_zero, List.set_cons_succ] at hA_
                subst hA_
                refine step_appRowsFresh sl_int int_info rfl (by decide) encI_len encI_one (by decide) rfl rfl rfl b0 wi.heap.size N0 B0 (out.take 0) none 0 0 (by rw [List.length_take, ← HMO.out]; try omega) (SRC1.out.below hSv) (by have := HLE.out; omega) rfl rfl ?_
                intro v' w' hown hb
                exact hK_.out _ _ _ rfl hown hb
              refine InvSteps.cons rfl (fun xs_ wv hSv hr_ A_ hA_ K_ hK_ => ?_) ?_
              · skip
                simp only [putAll, List.foldl, List.map, Act.put, List.setIfInBounds_toArray, List.set_cons_zero, List.set_cons_succ] at hA_
                subst hA_
                go_simp
                exact hK_.out _ _ _ rfl ⟨_, rfl, Blk.new _ _ _⟩ ((Below.refl _ _).alloc (Nat.le_refl _) _)
              exact InvSteps.nil
            intro xs_ wv hSv hr_ A_ hA_
            have O4 : wv.ownsRow wi.heap.size 3 1 (xs_ 4) 0 ((out.take 0).flatMap encI) := hr_ 4
            obtain ⟨b0, e0, N0, B0⟩ := hr_ 0
            obtain ⟨b10, e10, B10⟩ := hr_ 10
            simp only [e0, e10, putAll, List.foldl, List.map, Act.put, List.setIfInBounds_toArray, List.set_cons_zero, List.set_cons_succ] at hA_
            subst hA_
            clear hr_ e0 B0 N0 e10
            generalize xs_ 4 = v4 at O4
            refine go_op 11 rfl (by kernel_rfl) (fun K_ hK_ => ?_)
            refine step_appRows sl_int int_info rfl (by decide) encI_len encI_one (by decide) rfl rfl rfl wi.heap.size v4 0 (out.take 0) [x] (some ⟨b10, 0, none⟩) 1 1 rfl O4 (SrcAt.one B10 rfl) (by have := HLE.out; omega) hSv.size rfl rfl ?_
            intro v7 w8 o7 g7 hv7
            have hb8 := hSv.trans (below_grown g7 hSv.size (fun k hk => owns_block O4 k hk))
            try simp only [Act.put, List.setIfInBounds_toArray, List.set_cons_zero, List.set_cons_succ]
            refine hK_.out _ _ hb8 (fun hHeld_ => ?_)
            refine go_op 15 rfl (by kernel_rfl) (fun K_ hK_ => ?_)
            refine step_appRows sl_int int_info rfl (by decide) encI_len encI_one (by decide) rfl rfl rfl wi.heap.size v7 (0 + 1) (out.take 0 ++ [x]) (out.drop 0) none 0 0 (by rw [List.length_drop, ← HMO.out]; try omega) o7 (SRC2.out.below hb8) (by have := HLE.out; omega) hb8.size rfl rfl ?_
            intro v8 w9 o8 g8 hv8
            have hb9 := hb8.trans (below_grown g8 hb8.size (fun k hk => owns_block o7 k hk))
            try simp only [Act.put, List.setIfInBounds_toArray, List.set_cons_zero, List.set_cons_succ]
            refine hK_.out _ _ hb9 (fun hHeld_ => ?_)
            refine take_op 16 (some 5) (v := ?_) rfl rfl (by kernel_rfl) (by kernel_rfl) (by kernel_rfl) (fun _ _ _ h => h) (Or.inl ⟨by rfl, ?_⟩) (by assumption) ?_
            rotate_left
            · intro w_ hSw_; (try dsimp only at hSw_); go_simp; (try with_reducible rfl)
            try simp only [Act.put, List.setIfInBounds_toArray, List.set_cons_zero, List.set_cons_succ]
            refine wpAnyH_done (by kernel_rfl) ?_ _
            have hins := HSORT.out.ins (x := x) (k := 0) HLT.out HGE.out
            have hlen : (out.take 0 ++ [x] ++ out.drop 0).length = 0 + 1 + 0 := by rw [List.length_append, List.length_append, List.length_take, List.length_drop, ← HMO.out, List.length_singleton]; try omega
            have HB9 := Lib.hid hb9
            have hO9 : w9.ownsRow w6.heap.size 3 1 v8 (out.take 0 ++ [x] ++ out.drop 0).length ((out.take 0 ++ [x] ++ out.drop 0).flatMap encI) := by rw [hlen]; exact owns_rebase o8 HBI.out.size
            have HO9 := Lib.hid hO9
            have HIN9 := Lib.hid (hins.congr HSTEP.out)
            have HLEN9 := Lib.hid hlen
            clear hHeld hHeld_ o7 o8 g7 g8 hv7 hv8 hb8 hb9 hO9 hins hlen O4 B10 hSv
            go_wp2_with fail
            go_roundw
            case rel => exact ⟨i + 1, _, v8, by omega, by go_num, rfl, HIN9.out, (by rw [HLEN9.out]; have := HLE.out; have := HMO.out; omega), HO9.out, HBI.out.trans (HB9.out.mono HBI.out.size)⟩
            case measure => simp [intOf]; omega
          · have hkc : k ≤ cap := by omega
            by_cases hck : cap = k
            · have hck9 := hck.symm
              subst hck9
              have SRC2 : Hid (SrcAt encI 1 wi (some ⟨g, 0, none⟩) (out.drop k)) := Lib.hid (by rw [SRCD.out]; exact fun h => by simp at h)
              go_wp2_with fail
              refine wp_region_held_drew (S := fun _ => True) (by kernel_rfl) trivial (fun hHeld => ?_)
              refine take_op 0 (some 20) (v := ?_) rfl rfl (by kernel_rfl) (by kernel_rfl) (by kernel_rfl) (fun _ _ _ h => h) (Or.inl ⟨by rfl, ?_⟩) (by assumption) ?_
              rotate_left
              · intro w_ hSw_; (try dsimp only at hSw_); go_simp; (try with_reducible rfl)
              try simp only [Act.put, List.setIfInBounds_toArray, List.set_cons_zero, List.set_cons_succ]
              refine take_op 1 (some 21) (v := ?_) rfl rfl (by kernel_rfl) (by kernel_rfl) (by kernel_rfl) (fun _ _ _ h => h) (Or.inl ⟨by rfl, ?_⟩) (by assumption) ?_
              rotate_left
              · intro w_ hSw_; (try dsimp only at hSw_); go_simp; (try with_reducible rfl)
              try simp only [Act.put, List.setIfInBounds_toArray, List.set_cons_zero, List.set_cons_succ]
              refine take_op 2 (some 22) (v := ?_) rfl rfl (by kernel_rfl) (by kernel_rfl) (by kernel_rfl) (fun _ _ _ h => h) (Or.inl ⟨by rfl, ?_⟩) (by assumption) ?_
              rotate_left
              · intro w_ hSw_; (try dsimp only at hSw_); go_simp; (try with_reducible rfl)
              try simp only [Act.put, List.setIfInBounds_toArray, List.set_cons_zero, List.set_cons_succ]
              refine take_op 3 (some 23) (v := ?_) rfl rfl (by kernel_rfl) (by kernel_rfl) (by kernel_rfl) (fun _ _ _ h => h) (Or.inl ⟨by rfl, ?_⟩) (by assumption) ?_
              rotate_left
              · intro w_ hSw_; (try dsimp only at hSw_); go_simp; (try with_reducible rfl)
              try simp only [Act.put, List.setIfInBounds_toArray, List.set_cons_zero, List.set_cons_succ]
              refine take_op 4 (some 24) (v := ?_) rfl rfl (by kernel_rfl) (by kernel_rfl) (by kernel_rfl) (fun _ _ _ h => h) (Or.inl ⟨by rfl, ?_⟩) (by assumption) ?_
              rotate_left
              · intro w_ hSw_; (try dsimp only at hSw_); go_simp; (try with_reducible rfl)
              try simp only [Act.put, List.setIfInBounds_toArray, List.set_cons_zero, List.set_cons_succ]
              refine take_op 5 (some 25) rfl rfl (by kernel_rfl) (by kernel_rfl) (by kernel_rfl) (fun _ _ _ h => h) (Or.inr ⟨by rfl, rfl⟩) (by assumption) ?_
              try simp only [Act.put, List.setIfInBounds_toArray, List.set_cons_zero, List.set_cons_succ]
              refine take_op 6 (some 26) rfl rfl (by kernel_rfl) (by kernel_rfl) (by kernel_rfl) (fun _ _ _ h => h) (Or.inr ⟨by rfl, rfl⟩) (by assumption) ?_
              try simp only [Act.put, List.setIfInBounds_toArray, List.set_cons_zero, List.set_cons_succ]
              refine take_op 7 (some 27) rfl rfl (by kernel_rfl) (by kernel_rfl) (by kernel_rfl) (fun _ _ _ h => h) (Or.inr ⟨by rfl, rfl⟩) (by assumption) ?_
              try simp only [Act.put, List.setIfInBounds_toArray, List.set_cons_zero, List.set_cons_succ]
              refine take_op 8 (some 28) rfl rfl (by kernel_rfl) (by kernel_rfl) (by kernel_rfl) (fun _ _ _ h => h) (Or.inr ⟨by rfl, rfl⟩) (by assumption) ?_
              try simp only [Act.put, List.setIfInBounds_toArray, List.set_cons_zero, List.set_cons_succ]
              refine take_op 9 (some 29) rfl rfl (by kernel_rfl) (by kernel_rfl) (by kernel_rfl) (fun _ _ _ h => h) (Or.inr ⟨by rfl, rfl⟩) (by assumption) ?_
              try simp only [Act.put, List.setIfInBounds_toArray, List.set_cons_zero, List.set_cons_succ]
              refine take_op 10 (some 30) rfl rfl (by kernel_rfl) (by kernel_rfl) (by kernel_rfl) (fun _ _ _ h => h) (Or.inr ⟨by rfl, rfl⟩) (by assumption) ?_
              try simp only [Act.put, List.setIfInBounds_toArray, List.set_cons_zero, List.set_cons_succ]
              refine take_op 11 (some 31) rfl rfl (by kernel_rfl) (by kernel_rfl) (by kernel_rfl) (fun _ _ _ h => h) (Or.inr ⟨by rfl, rfl⟩) (by assumption) ?_
              try simp only [Act.put, List.setIfInBounds_toArray, List.set_cons_zero, List.set_cons_succ]
              refine take_op 12 (some 32) rfl rfl (by kernel_rfl) (by kernel_rfl) (by kernel_rfl) (fun _ _ _ h => h) (Or.inr ⟨by rfl, rfl⟩) (by assumption) ?_
              try simp only [Act.put, List.setIfInBounds_toArray, List.set_cons_zero, List.set_cons_succ]
              refine take_op 13 (some 33) rfl rfl (by kernel_rfl) (by kernel_rfl) (by kernel_rfl) (fun _ _ _ h => h) (Or.inr ⟨by rfl, rfl⟩) (by assumption) ?_
              try simp only [Act.put, List.setIfInBounds_toArray, List.set_cons_zero, List.set_cons_succ]
              refine take_op 14 (some 34) rfl rfl (by kernel_rfl) (by kernel_rfl) (by kernel_rfl) (fun _ _ _ h => h) (Or.inr ⟨by rfl, rfl⟩) (by assumption) ?_
              try simp only [Act.put, List.setIfInBounds_toArray, List.set_cons_zero, List.set_cons_succ]
              refine take_op 15 (some 35) (v := ?_) rfl rfl (by kernel_rfl) (by kernel_rfl) (by kernel_rfl) (fun _ _ _ h => h) (Or.inl ⟨by rfl, ?_⟩) (by assumption) ?_
              rotate_left
              · intro w_ hSw_; (try dsimp only at hSw_); go_simp; (try with_reducible rfl)
              try simp only [Act.put, List.setIfInBounds_toArray, List.set_cons_zero, List.set_cons_succ]
              refine wpAnyH_done (by kernel_rfl) ?_ _
              clear hHeld
              go_wp2_with fail
              refine wp_region_held_drew (S := fun _ => True) (by kernel_rfl) trivial (fun hHeld => ?_)
              refine take_op 0 (some 38) (v := ?_) rfl rfl (by kernel_rfl) (by kernel_rfl) (by kernel_rfl) (fun _ _ _ h => h) (Or.inl ⟨by rfl, ?_⟩) (by assumption) ?_
              rotate_left
              · intro w_ hSw_; (try dsimp only at hSw_); go_simp; (try with_reducible rfl)
              try simp only [Act.put, List.setIfInBounds_toArray, List.set_cons_zero, List.set_cons_succ]
              refine take_op 1 (some 39) (v := ?_) rfl rfl (by kernel_rfl) (by kernel_rfl) (by kernel_rfl) (fun _ _ _ h => h) (Or.inl ⟨by rfl, ?_⟩) (by assumption) ?_
              rotate_left
              · intro w_ hSw_; (try dsimp only at hSw_); go_simp; (try with_reducible rfl)
              try simp only [Act.put, List.setIfInBounds_toArray, List.set_cons_zero, List.set_cons_succ]
              refine take_op 2 (some 40) (v := ?_) rfl rfl (by kernel_rfl) (by kernel_rfl) (by kernel_rfl) (fun _ _ _ h => h) (Or.inl ⟨by rfl, ?_⟩) (by assumption) ?_
              rotate_left
              · intro w_ hSw_; (try dsimp only at hSw_); go_simp; (try with_reducible rfl)
              try simp only [Act.put, List.setIfInBounds_toArray, List.set_cons_zero, List.set_cons_succ]
              refine take_op 3 (some 41) (v := ?_) rfl rfl (by kernel_rfl) (by kernel_rfl) (by kernel_rfl) (fun _ _ _ h => h) (Or.inl ⟨by rfl, ?_⟩) (by assumption) ?_
              rotate_left
              · intro w_ hSw_; (try dsimp only at hSw_); go_simp; (try with_reducible rfl)
              try simp only [Act.put, List.setIfInBounds_toArray, List.set_cons_zero, List.set_cons_succ]
              refine take_op 4 (some 42) (v := ?_) rfl rfl (by kernel_rfl) (by kernel_rfl) (by kernel_rfl) (fun _ _ _ h => h) (Or.inl ⟨by rfl, ?_⟩) (by assumption) ?_
              rotate_left
              · intro w_ hSw_; (try dsimp only at hSw_); go_simp; (try with_reducible rfl)
              try simp only [Act.put, List.setIfInBounds_toArray, List.set_cons_zero, List.set_cons_succ]
              refine take_op 5 (some 43) rfl rfl (by kernel_rfl) (by kernel_rfl) (by kernel_rfl) (fun _ _ _ h => h) (Or.inr ⟨by rfl, rfl⟩) (by assumption) ?_
              try simp only [Act.put, List.setIfInBounds_toArray, List.set_cons_zero, List.set_cons_succ]
              refine take_op 6 (some 44) rfl rfl (by kernel_rfl) (by kernel_rfl) (by kernel_rfl) (fun _ _ _ h => h) (Or.inr ⟨by rfl, rfl⟩) (by assumption) ?_
              try simp only [Act.put, List.setIfInBounds_toArray, List.set_cons_zero, List.set_cons_succ]
              refine take_op 7 (some 45) rfl rfl (by kernel_rfl) (by kernel_rfl) (by kernel_rfl) (fun _ _ _ h => h) (Or.inr ⟨by rfl, rfl⟩) (by assumption) ?_
              try simp only [Act.put, List.setIfInBounds_toArray, List.set_cons_zero, List.set_cons_succ]
              refine take_op 8 (some 46) rfl rfl (by kernel_rfl) (by kernel_rfl) (by kernel_rfl) (fun _ _ _ h => h) (Or.inr ⟨by rfl, rfl⟩) (by assumption) ?_
              try simp only [Act.put, List.setIfInBounds_toArray, List.set_cons_zero, List.set_cons_succ]
              refine take_op 9 (some 47) rfl rfl (by kernel_rfl) (by kernel_rfl) (by kernel_rfl) (fun _ _ _ h => h) (Or.inr ⟨by rfl, rfl⟩) (by assumption) ?_
              try simp only [Act.put, List.setIfInBounds_toArray, List.set_cons_zero, List.set_cons_succ]
              refine take_op 10 (some 48) rfl rfl (by kernel_rfl) (by kernel_rfl) (by kernel_rfl) (fun _ _ _ h => h) (Or.inr ⟨by rfl, rfl⟩) (by assumption) ?_
              try simp only [Act.put, List.setIfInBounds_toArray, List.set_cons_zero, List.set_cons_succ]
              refine take_op 11 (some 49) rfl rfl (by kernel_rfl) (by kernel_rfl) (by kernel_rfl) (fun _ _ _ h => h) (Or.inr ⟨by rfl, rfl⟩) (by assumption) ?_
              try simp only [Act.put, List.setIfInBounds_toArray, List.set_cons_zero, List.set_cons_succ]
              refine take_op 12 (some 50) rfl rfl (by kernel_rfl) (by kernel_rfl) (by kernel_rfl) (fun _ _ _ h => h) (Or.inr ⟨by rfl, rfl⟩) (by assumption) ?_
              try simp only [Act.put, List.setIfInBounds_toArray, List.set_cons_zero, List.set_cons_succ]
              refine take_op 13 (some 51) rfl rfl (by kernel_rfl) (by kernel_rfl) (by kernel_rfl) (fun _ _ _ h => h) (Or.inr ⟨by rfl, rfl⟩) (by assumption) ?_
              try simp only [Act.put, List.setIfInBounds_toArray, List.set_cons_zero, List.set_cons_succ]
              refine take_op 14 (some 52) rfl rfl (by kernel_rfl) (by kernel_rfl) (by kernel_rfl) (fun _ _ _ h => h) (Or.inr ⟨by rfl, rfl⟩) (by assumption) ?_
              try simp only [Act.put, List.setIfInBounds_toArray, List.set_cons_zero, List.set_cons_succ]
              refine take_op 15 (some 53) (v := ?_) rfl rfl (by kernel_rfl) (by kernel_rfl) (by kernel_rfl) (fun _ _ _ h => h) (Or.inl ⟨by rfl, ?_⟩) (by assumption) ?_
              rotate_left
              · intro w_ hSw_; (try dsimp only at hSw_); go_simp; (try with_reducible rfl)
              try simp only [Act.put, List.setIfInBounds_toArray, List.set_cons_zero, List.set_cons_succ]
              refine wpAnyH_done (by kernel_rfl) ?_ _
              clear hHeld
              have hD : Below wi.heap.size wi wi.drew.drew := (Below.refl _ wi).drew.drew
              have HBI9 := Lib.hid (HBI.out.trans (hD.mono HBI.out.size))
              have X09 := Lib.hid ((hD.cell (p := ⟨be, oe + i * 13, none⟩) HBX.out).trans X0.out)
              have HBX9 : Hid (be < wi.drew.drew.heap.size) := Lib.hid (Nat.lt_of_lt_of_le HBX.out hD.size)
              have HOWI9 := Lib.hid (owns_below HOWI.out hD (Nat.le_refl _))
              have SRC19 := Lib.hid (SRC1.out.below hD)
              have SRC29 := Lib.hid (SRC2.out.below hD)
              clear hD HBI X0 HBX HOWI SRC1 HBW SRC2
              revert HBI9 X09 HBX9 HOWI9 SRC19 SRC29
              generalize wi.drew.drew = wi
              intro HBI X0 HBX HOWI SRC1 SRC2
              go_wp2_with fail
              refine wp_region_held_drew (S := fun w' => Below wi.heap.size wi w') (by kernel_rfl) (Below.refl _ wi).drew (fun hHeld => ?_)
              refine take_op 1 (some 55) (v := ?_) rfl rfl (by kernel_rfl) (by kernel_rfl) (by kernel_rfl) (fun _ _ _ h => h) (Or.inl ⟨by rfl, ?_⟩) (by assumption) ?_
              rotate_left
              · intro w_ hSw_; (try dsimp only at hSw_); go_simp; (try with_reducible rfl)
              try simp only [Act.put, List.setIfInBounds_toArray, List.set_cons_zero, List.set_cons_succ]
              refine take_op 2 (some 56) (v := ?_) rfl rfl (by kernel_rfl) (by kernel_rfl) (by kernel_rfl) (fun _ _ _ h => h) (Or.inl ⟨by rfl, ?_⟩) (by assumption) ?_
              rotate_left
              · intro w_ hSw_; (try dsimp only at hSw_); go_simp; (try with_reducible rfl)
              try simp only [Act.put, List.setIfInBounds_toArray, List.set_cons_zero, List.set_cons_succ]
              refine take_op 3 (some 57) (v := ?_) rfl rfl (by kernel_rfl) (by kernel_rfl) (by kernel_rfl) (fun _ _ _ h => h) (Or.inl ⟨by rfl, ?_⟩) (by assumption) ?_
              rotate_left
              · intro w_ hSw_; (try dsimp only at hSw_); go_simp; (try with_reducible rfl)
              try simp only [Act.put, List.setIfInBounds_toArray, List.set_cons_zero, List.set_cons_succ]
              refine take_op 5 (some 59) (v := ?_) rfl rfl (by kernel_rfl) (by kernel_rfl) (by kernel_rfl) (fun _ _ _ h => h) (Or.inl ⟨by rfl, ?_⟩) (by assumption) ?_
              rotate_left
              · intro w_ hSw_; (try dsimp only at hSw_); go_simp; (try with_reducible rfl)
              try simp only [Act.put, List.setIfInBounds_toArray, List.set_cons_zero, List.set_cons_succ]
              refine take_op 6 (some 60) (v := ?_) rfl rfl (by kernel_rfl) (by kernel_rfl) (by kernel_rfl) (fun _ _ _ h => h) (Or.inl ⟨by rfl, ?_⟩) (by assumption) ?_
              rotate_left
              · intro w_ hSw_; (try dsimp only at hSw_); go_simp; (try with_reducible rfl)
              try simp only [Act.put, List.setIfInBounds_toArray, List.set_cons_zero, List.set_cons_succ]
              refine take_op 7 (some 61) (v := ?_) rfl rfl (by kernel_rfl) (by kernel_rfl) (by kernel_rfl) (fun _ _ _ h => h) (Or.inl ⟨by rfl, ?_⟩) (by assumption) ?_
              rotate_left
              · intro w_ hSw_; (try dsimp only at hSw_); go_simp; (try with_reducible rfl)
              try simp only [Act.put, List.setIfInBounds_toArray, List.set_cons_zero, List.set_cons_succ]
              refine take_op 8 (some 62) (v := ?_) rfl rfl (by kernel_rfl) (by kernel_rfl) (by kernel_rfl) (fun _ _ _ h => h) (Or.inl ⟨by rfl, ?_⟩) (by assumption) ?_
              rotate_left
              · intro w_ hSw_; (try dsimp only at hSw_); go_simp; (try with_reducible rfl)
              try simp only [Act.put, List.setIfInBounds_toArray, List.set_cons_zero, List.set_cons_succ]
              refine take_op 9 (some 63) (v := .int .i64 x) rfl rfl (by kernel_rfl) (by kernel_rfl) (by kernel_rfl) (fun _ _ _ h => h) (Or.inl ⟨by rfl, ?_⟩) (by assumption) ?_
              · intro w_ hSw_
                have c0 := (hSw_.cell (p := ⟨be, oe + i * 13, none⟩) HBX.out).trans X0.out
                go_simp
                try rfl
              try simp only [Act.put, List.setIfInBounds_toArray, List.set_cons_zero, List.set_cons_succ]
              refine take_op 12 (some 66) (v := ?_) rfl rfl (by kernel_rfl) (by kernel_rfl) (by kernel_rfl) (fun _ _ _ h => h) (Or.inl ⟨by rfl, ?_⟩) (by assumption) ?_
              rotate_left
              · intro w_ hSw_; (try dsimp only at hSw_); go_simp; (try with_reducible rfl)
              try simp only [Act.put, List.setIfInBounds_toArray, List.set_cons_zero, List.set_cons_succ]
              refine take_op 13 (some 67) (v := ?_) rfl rfl (by kernel_rfl) (by kernel_rfl) (by kernel_rfl) (fun _ _ _ h => h) (Or.inl ⟨by rfl, ?_⟩) (by assumption) ?_
              rotate_left
              · intro w_ hSw_; (try dsimp only at hSw_); go_simp; (try with_reducible rfl)
              try simp only [Act.put, List.setIfInBounds_toArray, List.set_cons_zero, List.set_cons_succ]
              refine take_op 14 (some 68) (v := ?_) rfl rfl (by kernel_rfl) (by kernel_rfl) (by kernel_rfl) (fun _ _ _ h => h) (Or.inl ⟨by rfl, ?_⟩) (by assumption) ?_
              rotate_left
              · intro w_ hSw_; (try dsimp only at hSw_); go_simp; (try with_reducible rfl)
              try simp only [Act.put, List.setIfInBounds_toArray, List.set_cons_zero, List.set_cons_succ]
              refine wpAnyH_tab (fun w' => Below wi.heap.size wi w') [0, 4, 10] 3 [(0, 54, .newr wi.heap.size #[] 3), (4, 58, .ownk wi.heap.size 3 1 k ((out.take k).flatMap encI)), (10, 64, .rowk 1 #[.int .i64 x] 3)] rfl rfl (by kernel_rfl) (fun _ h => h) (fun w1 w2 h hb => h.trans (hb.mono h.size)) hHeld ?_ ?_
              · skip
                refine InvSteps.cons rfl (fun xs_ wv hSv hr_ A_ hA_ K_ hK_ => ?_) ?_
                · skip
                  simp only [putAll, List.foldl, List.map, Act.put, List.setIfInBounds_toArray, List.set_cons_zero, List.set_cons_succ] at hA_
                  subst hA_
                  go_simp
                  exact hK_.out _ _ _ rfl ⟨_, rfl, hSv.size, Blk.new _ _ _⟩ ((Below.refl _ _).alloc (Nat.le_refl _) _)
                refine InvSteps.cons rfl (fun xs_ wv hSv hr_ A_ hA_ K_ hK_ => ?_) ?_
                · skip
                  obtain ⟨b0, e0, N0, B0⟩ := hr_ 0 (by kernel_rfl)
                  simp only [e0, putAll, List.foldl, List.map, Act.put, List.setIfInBounds_toArray, List.set_cons_zero, List.set_cons_succ] at hA_
                  subst hA_
                  refine step_appRowsFresh sl_int int_info rfl (by decide) encI_len encI_one (by decide) rfl rfl rfl b0 wi.heap.size N0 B0 (out.take k) (some ⟨g, 0, none⟩) k k (by rw [List.length_take, ← HMO.out]; try omega) (SRC1.out.below hSv) (by have := HLE.out; omega) rfl rfl ?_
                  intro v' w' hown hb
                  exact hK_.out _ _ _ rfl hown hb
                refine InvSteps.cons rfl (fun xs_ wv hSv hr_ A_ hA_ K_ hK_ => ?_) ?_
                · skip
                  simp only [putAll, List.foldl, List.map, Act.put, List.setIfInBounds_toArray, List.set_cons_zero, List.set_cons_succ] at hA_
                  subst hA_
                  go_simp
                  exact hK_.out _ _ _ rfl ⟨_, rfl, Blk.new _ _ _⟩ ((Below.refl _ _).alloc (Nat.le_refl _) _)
                exact InvSteps.nil
              intro xs_ wv hSv hr_ A_ hA_
              have O4 : wv.ownsRow wi.heap.size 3 1 (xs_ 4) k ((out.take k).flatMap encI) := hr_ 4
              obtain ⟨b0, e0, N0, B0⟩ := hr_ 0
              obtain ⟨b10, e10, B10⟩ := hr_ 10
              simp only [e0, e10, putAll, List.foldl, List.map, Act.put, List.setIfInBounds_toArray, List.set_cons_zero, List.set_cons_succ] at hA_
              subst hA_
              clear hr_ e0 B0 N0 e10
              generalize xs_ 4 = v4 at O4
              refine go_op 11 rfl (by kernel_rfl) (fun K_ hK_ => ?_)
              refine step_appRows sl_int int_info rfl (by decide) encI_len encI_one (by decide) rfl rfl rfl wi.heap.size v4 k (out.take k) [x] (some ⟨b10, 0, none⟩) 1 1 rfl O4 (SrcAt.one B10 rfl) (by have := HLE.out; omega) hSv.size rfl rfl ?_
              intro v7 w8 o7 g7 hv7
              have hb8 := hSv.trans (below_grown g7 hSv.size (fun k hk => owns_block O4 k hk))
              try simp only [Act.put, List.setIfInBounds_toArray, List.set_cons_zero, List.set_cons_succ]
              refine hK_.out _ _ hb8 (fun hHeld_ => ?_)
              refine go_op 15 rfl (by kernel_rfl) (fun K_ hK_ => ?_)
              refine step_appRows sl_int int_info rfl (by decide) encI_len encI_one (by decide) rfl rfl rfl wi.heap.size v7 (k + 1) (out.take k ++ [x]) (out.drop k) (some ⟨g, 0, none⟩) 0 0 (by rw [List.length_drop, ← HMO.out]; try omega) o7 (SRC2.out.below hb8) (by have := HLE.out; omega) hb8.size rfl rfl ?_
              intro v8 w9 o8 g8 hv8
              have hb9 := hb8.trans (below_grown g8 hb8.size (fun k hk => owns_block o7 k hk))
              try simp only [Act.put, List.setIfInBounds_toArray, List.set_cons_zero, List.set_cons_succ]
              refine hK_.out _ _ hb9 (fun hHeld_ => ?_)
              refine take_op 16 (some 5) (v := ?_) rfl rfl (by kernel_rfl) (by kernel_rfl) (by kernel_rfl) (fun _ _ _ h => h) (Or.inl ⟨by rfl, ?_⟩) (by assumption) ?_
              rotate_left
              · intro w_ hSw_; (try dsimp only at hSw_); go_simp; (try with_reducible rfl)
              try simp only [Act.put, List.setIfInBounds_toArray, List.set_cons_zero, List.set_cons_succ]
              refine wpAnyH_done (by kernel_rfl) ?_ _
              have hins := HSORT.out.ins (x := x) (k := k) HLT.out HGE.out
              have hlen : (out.take k ++ [x] ++ out.drop k).length = k + 1 + 0 := by rw [List.length_append, List.length_append, List.length_take, List.length_drop, ← HMO.out, List.length_singleton]; try omega
              have HB9 := Lib.hid hb9
              have hO9 : w9.ownsRow w6.heap.size 3 1 v8 (out.take k ++ [x] ++ out.drop k).length ((out.take k ++ [x] ++ out.drop k).flatMap encI) := by rw [hlen]; exact owns_rebase o8 HBI.out.size
              have HO9 := Lib.hid hO9
              have HIN9 := Lib.hid (hins.congr HSTEP.out)
              have HLEN9 := Lib.hid hlen
              clear hHeld hHeld_ o7 o8 g7 g8 hv7 hv8 hb8 hb9 hO9 hins hlen O4 B10 hSv
              go_wp2_with fail
              go_roundw
              case rel => exact ⟨i + 1, _, v8, by omega, by go_num, rfl, HIN9.out, (by rw [HLEN9.out]; have := HLE.out; have := HMO.out; omega), HO9.out, HBI.out.trans (HB9.out.mono HBI.out.size)⟩
              case measure => simp [intOf]; omega
            · have SRC2 : Hid (SrcAt encI 1 wi (some ⟨g, k, none⟩) (out.drop k)) := Lib.hid (by rw [SRCD.out]; exact fun h => by simp at h)
              go_wp2_with fail
              refine wp_region_held_drew (S := fun _ => True) (by kernel_rfl) trivial (fun hHeld => ?_)
              refine take_op 0 (some 20) (v := ?_) rfl rfl (by kernel_rfl) (by kernel_rfl) (by kernel_rfl) (fun _ _ _ h => h) (Or.inl ⟨by rfl, ?_⟩) (by assumption) ?_
              rotate_left
              · intro w_ hSw_; (try dsimp only at hSw_); go_simp; (try with_reducible rfl)
              try simp only [Act.put, List.setIfInBounds_toArray, List.set_cons_zero, List.set_cons_succ]
              refine take_op 1 (some 21) (v := ?_) rfl rfl (by kernel_rfl) (by kernel_rfl) (by kernel_rfl) (fun _ _ _ h => h) (Or.inl ⟨by rfl, ?_⟩) (by assumption) ?_
              rotate_left
              · intro w_ hSw_; (try dsimp only at hSw_); go_simp; (try with_reducible rfl)
              try simp only [Act.put, List.setIfInBounds_toArray, List.set_cons_zero, List.set_cons_succ]
              refine take_op 2 (some 22) (v := ?_) rfl rfl (by kernel_rfl) (by kernel_rfl) (by kernel_rfl) (fun _ _ _ h => h) (Or.inl ⟨by rfl, ?_⟩) (by assumption) ?_
              rotate_left
              · intro w_ hSw_; (try dsimp only at hSw_); go_simp; (try with_reducible rfl)
              try simp only [Act.put, List.setIfInBounds_toArray, List.set_cons_zero, List.set_cons_succ]
              refine take_op 3 (some 23) (v := ?_) rfl rfl (by kernel_rfl) (by kernel_rfl) (by kernel_rfl) (fun _ _ _ h => h) (Or.inl ⟨by rfl, ?_⟩) (by assumption) ?_
              rotate_left
              · intro w_ hSw_; (try dsimp only at hSw_); go_simp; (try with_reducible rfl)
              try simp only [Act.put, List.setIfInBounds_toArray, List.set_cons_zero, List.set_cons_succ]
              refine take_op 4 (some 24) (v := ?_) rfl rfl (by kernel_rfl) (by kernel_rfl) (by kernel_rfl) (fun _ _ _ h => h) (Or.inl ⟨by rfl, ?_⟩) (by assumption) ?_
              rotate_left
              · intro w_ hSw_; (try dsimp only at hSw_); go_simp; (try with_reducible rfl)
              try simp only [Act.put, List.setIfInBounds_toArray, List.set_cons_zero, List.set_cons_succ]
              refine take_op 5 (some 25) rfl rfl (by kernel_rfl) (by kernel_rfl) (by kernel_rfl) (fun _ _ _ h => h) (Or.inr ⟨by rfl, rfl⟩) (by assumption) ?_
              try simp only [Act.put, List.setIfInBounds_toArray, List.set_cons_zero, List.set_cons_succ]
              refine take_op 6 (some 26) rfl rfl (by kernel_rfl) (by kernel_rfl) (by kernel_rfl) (fun _ _ _ h => h) (Or.inr ⟨by rfl, rfl⟩) (by assumption) ?_
              try simp only [Act.put, List.setIfInBounds_toArray, List.set_cons_zero, List.set_cons_succ]
              refine take_op 7 (some 27) rfl rfl (by kernel_rfl) (by kernel_rfl) (by kernel_rfl) (fun _ _ _ h => h) (Or.inr ⟨by rfl, rfl⟩) (by assumption) ?_
              try simp only [Act.put, List.setIfInBounds_toArray, List.set_cons_zero, List.set_cons_succ]
              refine take_op 8 (some 28) rfl rfl (by kernel_rfl) (by kernel_rfl) (by kernel_rfl) (fun _ _ _ h => h) (Or.inr ⟨by rfl, rfl⟩) (by assumption) ?_
              try simp only [Act.put, List.setIfInBounds_toArray, List.set_cons_zero, List.set_cons_succ]
              refine take_op 9 (some 29) rfl rfl (by kernel_rfl) (by kernel_rfl) (by kernel_rfl) (fun _ _ _ h => h) (Or.inr ⟨by rfl, rfl⟩) (by assumption) ?_
              try simp only [Act.put, List.setIfInBounds_toArray, List.set_cons_zero, List.set_cons_succ]
              refine take_op 10 (some 30) rfl rfl (by kernel_rfl) (by kernel_rfl) (by kernel_rfl) (fun _ _ _ h => h) (Or.inr ⟨by rfl, rfl⟩) (by assumption) ?_
              try simp only [Act.put, List.setIfInBounds_toArray, List.set_cons_zero, List.set_cons_succ]
              refine take_op 11 (some 31) rfl rfl (by kernel_rfl) (by kernel_rfl) (by kernel_rfl) (fun _ _ _ h => h) (Or.inr ⟨by rfl, rfl⟩) (by assumption) ?_
              try simp only [Act.put, List.setIfInBounds_toArray, List.set_cons_zero, List.set_cons_succ]
              refine take_op 12 (some 32) rfl rfl (by kernel_rfl) (by kernel_rfl) (by kernel_rfl) (fun _ _ _ h => h) (Or.inr ⟨by rfl, rfl⟩) (by assumption) ?_
              try simp only [Act.put, List.setIfInBounds_toArray, List.set_cons_zero, List.set_cons_succ]
              refine take_op 13 (some 33) rfl rfl (by kernel_rfl) (by kernel_rfl) (by kernel_rfl) (fun _ _ _ h => h) (Or.inr ⟨by rfl, rfl⟩) (by assumption) ?_
              try simp only [Act.put, List.setIfInBounds_toArray, List.set_cons_zero, List.set_cons_succ]
              refine take_op 14 (some 34) rfl rfl (by kernel_rfl) (by kernel_rfl) (by kernel_rfl) (fun _ _ _ h => h) (Or.inr ⟨by rfl, rfl⟩) (by assumption) ?_
              try simp only [Act.put, List.setIfInBounds_toArray, List.set_cons_zero, List.set_cons_succ]
              refine take_op 15 (some 35) (v := ?_) rfl rfl (by kernel_rfl) (by kernel_rfl) (by kernel_rfl) (fun _ _ _ h => h) (Or.inl ⟨by rfl, ?_⟩) (by assumption) ?_
              rotate_left
              · intro w_ hSw_; (try dsimp only at hSw_); go_simp; (try with_reducible rfl)
              try simp only [Act.put, List.setIfInBounds_toArray, List.set_cons_zero, List.set_cons_succ]
              refine wpAnyH_done (by kernel_rfl) ?_ _
              clear hHeld
              go_wp2_with fail
              refine wp_region_held_drew (S := fun _ => True) (by kernel_rfl) trivial (fun hHeld => ?_)
              refine take_op 0 (some 38) (v := ?_) rfl rfl (by kernel_rfl) (by kernel_rfl) (by kernel_rfl) (fun _ _ _ h => h) (Or.inl ⟨by rfl, ?_⟩) (by assumption) ?_
              rotate_left
              · intro w_ hSw_; (try dsimp only at hSw_); go_simp; (try with_reducible rfl)
              try simp only [Act.put, List.setIfInBounds_toArray, List.set_cons_zero, List.set_cons_succ]
              refine take_op 1 (some 39) (v := ?_) rfl rfl (by kernel_rfl) (by kernel_rfl) (by kernel_rfl) (fun _ _ _ h => h) (Or.inl ⟨by rfl, ?_⟩) (by assumption) ?_
              rotate_left
              · intro w_ hSw_; (try dsimp only at hSw_); go_simp; (try with_reducible rfl)
              try simp only [Act.put, List.setIfInBounds_toArray, List.set_cons_zero, List.set_cons_succ]
              refine take_op 2 (some 40) (v := ?_) rfl rfl (by kernel_rfl) (by kernel_rfl) (by kernel_rfl) (fun _ _ _ h => h) (Or.inl ⟨by rfl, ?_⟩) (by assumption) ?_
              rotate_left
              · intro w_ hSw_; (try dsimp only at hSw_); go_simp; (try with_reducible rfl)
              try simp only [Act.put, List.setIfInBounds_toArray, List.set_cons_zero, List.set_cons_succ]
              refine take_op 3 (some 41) (v := ?_) rfl rfl (by kernel_rfl) (by kernel_rfl) (by kernel_rfl) (fun _ _ _ h => h) (Or.inl ⟨by rfl, ?_⟩) (by assumption) ?_
              rotate_left
              · intro w_ hSw_; (try dsimp only at hSw_); go_simp; (try with_reducible rfl)
              try simp only [Act.put, List.setIfInBounds_toArray, List.set_cons_zero, List.set_cons_succ]
              refine take_op 4 (some 42) (v := ?_) rfl rfl (by kernel_rfl) (by kernel_rfl) (by kernel_rfl) (fun _ _ _ h => h) (Or.inl ⟨by rfl, ?_⟩) (by assumption) ?_
              rotate_left
              · intro w_ hSw_; (try dsimp only at hSw_); go_simp; (try with_reducible rfl)
              try simp only [Act.put, List.setIfInBounds_toArray, List.set_cons_zero, List.set_cons_succ]
              refine take_op 5 (some 43) rfl rfl (by kernel_rfl) (by kernel_rfl) (by kernel_rfl) (fun _ _ _ h => h) (Or.inr ⟨by rfl, rfl⟩) (by assumption) ?_
              try simp only [Act.put, List.setIfInBounds_toArray, List.set_cons_zero, List.set_cons_succ]
              refine take_op 6 (some 44) rfl rfl (by kernel_rfl) (by kernel_rfl) (by kernel_rfl) (fun _ _ _ h => h) (Or.inr ⟨by rfl, rfl⟩) (by assumption) ?_
              try simp only [Act.put, List.setIfInBounds_toArray, List.set_cons_zero, List.set_cons_succ]
              refine take_op 7 (some 45) rfl rfl (by kernel_rfl) (by kernel_rfl) (by kernel_rfl) (fun _ _ _ h => h) (Or.inr ⟨by rfl, rfl⟩) (by assumption) ?_
              try simp only [Act.put, List.setIfInBounds_toArray, List.set_cons_zero, List.set_cons_succ]
              refine take_op 8 (some 46) rfl rfl (by kernel_rfl) (by kernel_rfl) (by kernel_rfl) (fun _ _ _ h => h) (Or.inr ⟨by rfl, rfl⟩) (by assumption) ?_
              try simp only [Act.put, List.setIfInBounds_toArray, List.set_cons_zero, List.set_cons_succ]
              refine take_op 9 (some 47) rfl rfl (by kernel_rfl) (by kernel_rfl) (by kernel_rfl) (fun _ _ _ h => h) (Or.inr ⟨by rfl, rfl⟩) (by assumption) ?_
              try simp only [Act.put, List.setIfInBounds_toArray, List.set_cons_zero, List.set_cons_succ]
              refine take_op 10 (some 48) rfl rfl (by kernel_rfl) (by kernel_rfl) (by kernel_rfl) (fun _ _ _ h => h) (Or.inr ⟨by rfl, rfl⟩) (by assumption) ?_
              try simp only [Act.put, List.setIfInBounds_toArray, List.set_cons_zero, List.set_cons_succ]
              refine take_op 11 (some 49) rfl rfl (by kernel_rfl) (by kernel_rfl) (by kernel_rfl) (fun _ _ _ h => h) (Or.inr ⟨by rfl, rfl⟩) (by assumption) ?_
              try simp only [Act.put, List.setIfInBounds_toArray, List.set_cons_zero, List.set_cons_succ]
              refine take_op 12 (some 50) rfl rfl (by kernel_rfl) (by kernel_rfl) (by kernel_rfl) (fun _ _ _ h => h) (Or.inr ⟨by rfl, rfl⟩) (by assumption) ?_
              try simp only [Act.put, List.setIfInBounds_toArray, List.set_cons_zero, List.set_cons_succ]
              refine take_op 13 (some 51) rfl rfl (by kernel_rfl) (by kernel_rfl) (by kernel_rfl) (fun _ _ _ h => h) (Or.inr ⟨by rfl, rfl⟩) (by assumption) ?_
              try simp only [Act.put, List.setIfInBounds_toArray, List.set_cons_zero, List.set_cons_succ]
              refine take_op 14 (some 52) rfl rfl (by kernel_rfl) (by kernel_rfl) (by kernel_rfl) (fun _ _ _ h => h) (Or.inr ⟨by rfl, rfl⟩) (by assumption) ?_
              try simp only [Act.put, List.setIfInBounds_toArray, List.set_cons_zero, List.set_cons_succ]
              refine take_op 15 (some 53) (v := ?_) rfl rfl (by kernel_rfl) (by kernel_rfl) (by kernel_rfl) (fun _ _ _ h => h) (Or.inl ⟨by rfl, ?_⟩) (by assumption) ?_
              rotate_left
              · intro w_ hSw_; (try dsimp only at hSw_); go_simp; (try with_reducible rfl)
              try simp only [Act.put, List.setIfInBounds_toArray, List.set_cons_zero, List.set_cons_succ]
              refine wpAnyH_done (by kernel_rfl) ?_ _
              clear hHeld
              have hD : Below wi.heap.size wi wi.drew.drew := (Below.refl _ wi).drew.drew
              have HBI9 := Lib.hid (HBI.out.trans (hD.mono HBI.out.size))
              have X09 := Lib.hid ((hD.cell (p := ⟨be, oe + i * 13, none⟩) HBX.out).trans X0.out)
              have HBX9 : Hid (be < wi.drew.drew.heap.size) := Lib.hid (Nat.lt_of_lt_of_le HBX.out hD.size)
              have HOWI9 := Lib.hid (owns_below HOWI.out hD (Nat.le_refl _))
              have SRC19 := Lib.hid (SRC1.out.below hD)
              have SRC29 := Lib.hid (SRC2.out.below hD)
              clear hD HBI X0 HBX HOWI SRC1 HBW SRC2
              revert HBI9 X09 HBX9 HOWI9 SRC19 SRC29
              generalize wi.drew.drew = wi
              intro HBI X0 HBX HOWI SRC1 SRC2
              go_wp2_with fail
              refine wp_region_held_drew (S := fun w' => Below wi.heap.size wi w') (by kernel_rfl) (Below.refl _ wi).drew (fun hHeld => ?_)
              refine take_op 1 (some 55) (v := ?_) rfl rfl (by kernel_rfl) (by kernel_rfl) (by kernel_rfl) (fun _ _ _ h => h) (Or.inl ⟨by rfl, ?_⟩) (by assumption) ?_
              rotate_left
              · intro w_ hSw_; (try dsimp only at hSw_); go_simp; (try with_reducible rfl)
              try simp only [Act.put, List.setIfInBounds_toArray, List.set_cons_zero, List.set_cons_succ]
              refine take_op 2 (some 56) (v := ?_) rfl rfl (by kernel_rfl) (by kernel_rfl) (by kernel_rfl) (fun _ _ _ h => h) (Or.inl ⟨by rfl, ?_⟩) (by assumption) ?_
              rotate_left
              · intro w_ hSw_; (try dsimp only at hSw_); go_simp; (try with_reducible rfl)
              try simp only [Act.put, List.setIfInBounds_toArray, List.set_cons_zero, List.set_cons_succ]
              refine take_op 3 (some 57) (v := ?_) rfl rfl (by kernel_rfl) (by kernel_rfl) (by kernel_rfl) (fun _ _ _ h => h) (Or.inl ⟨by rfl, ?_⟩) (by assumption) ?_
              rotate_left
              · intro w_ hSw_; (try dsimp only at hSw_); go_simp; (try with_reducible rfl)
              try simp only [Act.put, List.setIfInBounds_toArray, List.set_cons_zero, List.set_cons_succ]
              refine take_op 5 (some 59) (v := ?_) rfl rfl (by kernel_rfl) (by kernel_rfl) (by kernel_rfl) (fun _ _ _ h => h) (Or.inl ⟨by rfl, ?_⟩) (by assumption) ?_
              rotate_left
              · intro w_ hSw_; (try dsimp only at hSw_); go_simp; (try with_reducible rfl)
              try simp only [Act.put, List.setIfInBounds_toArray, List.set_cons_zero, List.set_cons_succ]
              refine take_op 6 (some 60) (v := ?_) rfl rfl (by kernel_rfl) (by kernel_rfl) (by kernel_rfl) (fun _ _ _ h => h) (Or.inl ⟨by rfl, ?_⟩) (by assumption) ?_
              rotate_left
              · intro w_ hSw_; (try dsimp only at hSw_); go_simp; (try with_reducible rfl)
              try simp only [Act.put, List.setIfInBounds_toArray, List.set_cons_zero, List.set_cons_succ]
              refine take_op 7 (some 61) (v := ?_) rfl rfl (by kernel_rfl) (by kernel_rfl) (by kernel_rfl) (fun _ _ _ h => h) (Or.inl ⟨by rfl, ?_⟩) (by assumption) ?_
              rotate_left
              · intro w_ hSw_; (try dsimp only at hSw_); go_simp; (try with_reducible rfl)
              try simp only [Act.put, List.setIfInBounds_toArray, List.set_cons_zero, List.set_cons_succ]
              refine take_op 8 (some 62) (v := ?_) rfl rfl (by kernel_rfl) (by kernel_rfl) (by kernel_rfl) (fun _ _ _ h => h) (Or.inl ⟨by rfl, ?_⟩) (by assumption) ?_
              rotate_left
              · intro w_ hSw_; (try dsimp only at hSw_); go_simp; (try with_reducible rfl)
              try simp only [Act.put, List.setIfInBounds_toArray, List.set_cons_zero, List.set_cons_succ]
              refine take_op 9 (some 63) (v := .int .i64 x) rfl rfl (by kernel_rfl) (by kernel_rfl) (by kernel_rfl) (fun _ _ _ h => h) (Or.inl ⟨by rfl, ?_⟩) (by assumption) ?_
              · intro w_ hSw_
                have c0 := (hSw_.cell (p := ⟨be, oe + i * 13, none⟩) HBX.out).trans X0.out
                go_simp
                try rfl
              try simp only [Act.put, List.setIfInBounds_toArray, List.set_cons_zero, List.set_cons_succ]
              refine take_op 12 (some 66) (v := ?_) rfl rfl (by kernel_rfl) (by kernel_rfl) (by kernel_rfl) (fun _ _ _ h => h) (Or.inl ⟨by rfl, ?_⟩) (by assumption) ?_
              rotate_left
              · intro w_ hSw_; (try dsimp only at hSw_); go_simp; (try with_reducible rfl)
              try simp only [Act.put, List.setIfInBounds_toArray, List.set_cons_zero, List.set_cons_succ]
              refine take_op 13 (some 67) (v := ?_) rfl rfl (by kernel_rfl) (by kernel_rfl) (by kernel_rfl) (fun _ _ _ h => h) (Or.inl ⟨by rfl, ?_⟩) (by assumption) ?_
              rotate_left
              · intro w_ hSw_; (try dsimp only at hSw_); go_simp; (try with_reducible rfl)
              try simp only [Act.put, List.setIfInBounds_toArray, List.set_cons_zero, List.set_cons_succ]
              refine take_op 14 (some 68) (v := ?_) rfl rfl (by kernel_rfl) (by kernel_rfl) (by kernel_rfl) (fun _ _ _ h => h) (Or.inl ⟨by rfl, ?_⟩) (by assumption) ?_
              rotate_left
              · intro w_ hSw_; (try dsimp only at hSw_); go_simp; (try with_reducible rfl)
              try simp only [Act.put, List.setIfInBounds_toArray, List.set_cons_zero, List.set_cons_succ]
              refine wpAnyH_tab (fun w' => Below wi.heap.size wi w') [0, 4, 10] 3 [(0, 54, .newr wi.heap.size #[] 3), (4, 58, .ownk wi.heap.size 3 1 k ((out.take k).flatMap encI)), (10, 64, .rowk 1 #[.int .i64 x] 3)] rfl rfl (by kernel_rfl) (fun _ h => h) (fun w1 w2 h hb => h.trans (hb.mono h.size)) hHeld ?_ ?_
              · skip
                refine InvSteps.cons rfl (fun xs_ wv hSv hr_ A_ hA_ K_ hK_ => ?_) ?_
                · skip
                  simp only [putAll, List.foldl, List.map, Act.put, List.setIfInBounds_toArray, List.set_cons_zero, List.set_cons_succ] at hA_
                  subst hA_
                  go_simp
                  exact hK_.out _ _ _ rfl ⟨_, rfl, hSv.size, Blk.new _ _ _⟩ ((Below.refl _ _).alloc (Nat.le_refl _) _)
                refine InvSteps.cons rfl (fun xs_ wv hSv hr_ A_ hA_ K_ hK_ => ?_) ?_
                · skip
                  obtain ⟨b0, e0, N0, B0⟩ := hr_ 0 (by kernel_rfl)
                  simp only [e0, putAll, List.foldl, List.map, Act.put, List.setIfInBounds_toArray, List.set_cons_zero, List.set_cons_succ] at hA_
                  subst hA_
                  refine step_appRowsFresh sl_int int_info rfl (by decide) encI_len encI_one (by decide) rfl rfl rfl b0 wi.heap.size N0 B0 (out.take k) (some ⟨g, 0, none⟩) k cap (by rw [List.length_take, ← HMO.out]; try omega) (SRC1.out.below hSv) (by have := HLE.out; omega) rfl rfl ?_
                  intro v' w' hown hb
                  exact hK_.out _ _ _ rfl hown hb
                refine InvSteps.cons rfl (fun xs_ wv hSv hr_ A_ hA_ K_ hK_ => ?_) ?_
                · skip
                  simp only [putAll, List.foldl, List.map, Act.put, List.setIfInBounds_toArray, List.set_cons_zero, List.set_cons_succ] at hA_
                  subst hA_
                  go_simp
                  exact hK_.out _ _ _ rfl ⟨_, rfl, Blk.new _ _ _⟩ ((Below.refl _ _).alloc (Nat.le_refl _) _)
                exact InvSteps.nil
              intro xs_ wv hSv hr_ A_ hA_
              have O4 : wv.ownsRow wi.heap.size 3 1 (xs_ 4) k ((out.take k).flatMap encI) := hr_ 4
              obtain ⟨b0, e0, N0, B0⟩ := hr_ 0
              obtain ⟨b10, e10, B10⟩ := hr_ 10
              simp only [e0, e10, putAll, List.foldl, List.map, Act.put, List.setIfInBounds_toArray, List.set_cons_zero, List.set_cons_succ] at hA_
              subst hA_
              clear hr_ e0 B0 N0 e10
              generalize xs_ 4 = v4 at O4
              refine go_op 11 rfl (by kernel_rfl) (fun K_ hK_ => ?_)
              refine step_appRows sl_int int_info rfl (by decide) encI_len encI_one (by decide) rfl rfl rfl wi.heap.size v4 k (out.take k) [x] (some ⟨b10, 0, none⟩) 1 1 rfl O4 (SrcAt.one B10 rfl) (by have := HLE.out; omega) hSv.size rfl rfl ?_
              intro v7 w8 o7 g7 hv7
              have hb8 := hSv.trans (below_grown g7 hSv.size (fun k hk => owns_block O4 k hk))
              try simp only [Act.put, List.setIfInBounds_toArray, List.set_cons_zero, List.set_cons_succ]
              refine hK_.out _ _ hb8 (fun hHeld_ => ?_)
              refine go_op 15 rfl (by kernel_rfl) (fun K_ hK_ => ?_)
              refine step_appRows sl_int int_info rfl (by decide) encI_len encI_one (by decide) rfl rfl rfl wi.heap.size v7 (k + 1) (out.take k ++ [x]) (out.drop k) (some ⟨g, k, none⟩) 0 (cap - k) (by rw [List.length_drop, ← HMO.out]; try omega) o7 (SRC2.out.below hb8) (by have := HLE.out; omega) hb8.size rfl rfl ?_
              intro v8 w9 o8 g8 hv8
              have hb9 := hb8.trans (below_grown g8 hb8.size (fun k hk => owns_block o7 k hk))
              try simp only [Act.put, List.setIfInBounds_toArray, List.set_cons_zero, List.set_cons_succ]
              refine hK_.out _ _ hb9 (fun hHeld_ => ?_)
              refine take_op 16 (some 5) (v := ?_) rfl rfl (by kernel_rfl) (by kernel_rfl) (by kernel_rfl) (fun _ _ _ h => h) (Or.inl ⟨by rfl, ?_⟩) (by assumption) ?_
              rotate_left
              · intro w_ hSw_; (try dsimp only at hSw_); go_simp; (try with_reducible rfl)
              try simp only [Act.put, List.setIfInBounds_toArray, List.set_cons_zero, List.set_cons_succ]
              refine wpAnyH_done (by kernel_rfl) ?_ _
              have hins := HSORT.out.ins (x := x) (k := k) HLT.out HGE.out
              have hlen : (out.take k ++ [x] ++ out.drop k).length = k + 1 + 0 := by rw [List.length_append, List.length_append, List.length_take, List.length_drop, ← HMO.out, List.length_singleton]; try omega
              have HB9 := Lib.hid hb9
              have hO9 : w9.ownsRow w6.heap.size 3 1 v8 (out.take k ++ [x] ++ out.drop k).length ((out.take k ++ [x] ++ out.drop k).flatMap encI) := by rw [hlen]; exact owns_rebase o8 HBI.out.size
              have HO9 := Lib.hid hO9
              have HIN9 := Lib.hid (hins.congr HSTEP.out)
              have HLEN9 := Lib.hid hlen
              clear hHeld hHeld_ o7 o8 g7 g8 hv7 hv8 hb8 hb9 hO9 hins hlen O4 B10 hSv
              go_wp2_with fail
              go_roundw
              case rel => exact ⟨i + 1, _, v8, by omega, by go_num, rfl, HIN9.out, (by rw [HLEN9.out]; have := HLE.out; have := HMO.out; omega), HO9.out, HBI.out.trans (HB9.out.mono HBI.out.size)⟩
              case measure => simp [intOf]; omega
    · have g1 : ¬ (i : Int) < (n : Int) := by omega
      have hin : n = i := by omega
      have hfin : Hid (SortedI (fun y => ∃ x ∈ all, x.id = y) out) := Lib.hid (by
        have h9 := HSORT.out
        rwa [← hin, HNA.out, List.take_length] at h9)
      clear hin
      go_wp2_with fail
      go_ret
      rw [← HALL.out]
      exact ⟨_, out, rfl, hfin.out, by rw [← HNA.out, ← HMO.out]; omega, RowsAt.own encI_len HOWN.out HMO.out (by omega), HB6.out.trans (HBI0.out.mono HB6.out.size)⟩
end Go.Proofs.Ytimiehnknehagaa
