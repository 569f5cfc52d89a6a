import Derived.Test.YtcakellhellddaaGreatDoorJoOpenPlain
set_option linter.unusedSimpArgs false
set_option linter.unusedVariables false
namespace Go.Proofs.YtcakellhellddaaGreatDoor
open Go.RowKit
/-- What begins leaves. -/
def BeginsPost (b mb : Nat) (r : Option JM × Int) (w : World) (e : Ending) (w' : World) : Prop :=
  Below w.heap.size w w' ∧
  match r.1 with
  | none => e = .returned (.tuple #[.pointer none, .int .i64 r.2])
  | some j => ∃ jb v, e = .returned (.tuple #[.pointer (some ⟨jb, 0, none⟩), .int .i64 r.2]) ∧ JAt w' jb b v j ∧ w.heap.size ≤ jb ∧ (∀ k, v.ownBlock = some k → w.heap.size ≤ k)
theorem secsM_len (m : DM) (a n : Nat) : (secsM m a n).length = n := by unfold secsM; simp
theorem secsM_size {m : DM} (h : m.wf) {a n : Nat} (hr : a + n ≤ m.S.length) : ∀ x ∈ secsM m a n, x.size = 256 := by
  intro x hx
  obtain ⟨j, hj, rfl⟩ := List.mem_map.1 hx
  exact DM.at_size h (by have := List.mem_range.1 hj; omega)
set_option maxRecDepth 100000 in
set_option maxHeartbeats 4000000 in
theorem begins_any (b mb : Nat) (m : DM) (area : Nat) (ha : area ≤ 1) (hs : jsize m ≠ 0) (w : World) (h : DiskAt w b mb m) :
    Calls Tryz.prog 51 #[.pointer (some ⟨b, 0, none⟩), .int .i64 (area : Int)] w (BeginsPost b mb (beginsF m area) w) := by
  have hwf := h.wf
  have hlen := hwf.len
  have hjs : 8 ≤ m.S.length ∧ m.S.length % 2 = 0 ∧ jsize m = (m.S.length - 2) / 2 := by
    unfold jsize at hs ⊢
    by_cases hc : m.S.length < 8 ∨ m.S.length % 2 ≠ 0
    · rw [if_pos hc] at hs; exact absurd rfl hs
    · rw [if_neg hc]; omega
  have hr1 : area + 1 ≤ m.S.length := by omega
  have hr2 : firstF m area + jsize m ≤ m.S.length := by
    unfold firstF
    rcases (by omega : area = 0 ∨ area = 1) with rfl | rfl <;> omega
  have HD := Lib.hid h
  have HWF := Lib.hid hwf
  have HR1 := Lib.hid hr1
  have HR2 := Lib.hid hr2
  have hsz0 : (m.at area).size = 256 := DM.at_size hwf (by omega)
  have HJ := Lib.hid hjs
  clear h hwf hlen hjs hr1 hr2
  go_enter Tryz.func51, Tryz.ntmps51
  go_wp2_with fail
  go_step3
  go_wp2_with fail
  refine (sectors_any b mb m area 1 (by decide) HR1.out _ HD.out).mono ?_
  rintro e w1 ⟨hb1, hp⟩
  have HB1 := Lib.hid hb1
  clear hb1
  cases hde : m.dead
  · rw [hde] at hp
    obtain ⟨v, rfl, ho⟩ := hp
    have HDE := Lib.hid hde
    have hS := StrsAt.own ho (by rw [secsM_len]) (by decide)
    have hl1 : secsM m area 1 = [m.at area] := rfl
    rw [hl1] at hS
    have HS := Lib.hid hS
    obtain ⟨a, c, rfl, hc1, hc2, hc3⟩ := hS
    obtain ⟨b1, o1, rfl, hlt1, hc4⟩ := hc3 (by simp)
    have c0 : w1.cell? ⟨b1, o1, none⟩ = some (.string (m.at area)) := hc4 0 _ rfl
    clear hl1 hc3 hc4 hde ho
    obtain ⟨x, hx⟩ : ∃ x, x = m.at area := ⟨_, rfl⟩
    rw [← hx] at hsz0 c0 HS
    have HX := Lib.hid hx
    clear hx
    simp only [List.length_cons, List.length_nil, Nat.zero_add] at hc1 ⊢
    go_wp2_with fail
    refine (frNum_any x (by rw [hsz0]; simp [maxLen]) _).mono ?_
    rintro e w2 ⟨rfl, hb2⟩
    have hnl := secNum_lt x
    obtain ⟨num, hnum⟩ : ∃ num, num = secNum x := ⟨_, rfl⟩
    rw [← hnum] at hnl ⊢
    have HNUM := Lib.hid hnum
    have HB2 := Lib.hid (HB1.out.trans (hb2.mono HB1.out.size))
    have HS2 := Lib.hid (HS.out.below hb2)
    have HSZ := Lib.hid hsz0
    clear hnum hb2 c0 hsz0 HS
    go_wp2_with fail
    refine (frRead_strs (.slice (some ⟨b1, o1, none⟩) 1 c) [x] num hnl (by simp) (by simp [HSZ.out]) _ HS2.out).mono ?_
    rintro e w3 ⟨rfl, hb3⟩
    have HB3 := Lib.hid (HB2.out.trans (hb3.mono HB2.out.size))
    obtain ⟨r, hr⟩ : ∃ r, r = readF [x] num := ⟨_, rfl⟩
    rw [← hr]
    have HRD := Lib.hid hr
    clear hr hb3 HS2
    obtain ⟨s, n, ok⟩ := r
    unfold got3
    dsimp only
    cases ok
    · have hF : Hid (beginsF m area = (none, 0)) := Lib.hid (by unfold beginsF; rw [HDE.out, ← HX.out, ← HNUM.out, ← HRD.out]; rfl)
      go_wp2_with fail
      go_ret2
      rw [hF.out]
      exact ⟨HB3.out, rfl⟩
    · go_wp2_with fail
      refine (head_any area ha _).mono ?_
      rintro e w4 ⟨rfl, hb4⟩
      have HB4 := Lib.hid (HB3.out.trans (hb4.mono HB3.out.size))
      clear hb4
      obtain ⟨hd, hhd⟩ : ∃ hd, hd = headB area := ⟨_, rfl⟩
      rw [← hhd]
      have HHD := Lib.hid hhd
      clear hhd
      by_cases hsh : s.toList = hd.toList
      · by_cases hnb : (2148483648 : Int) < (num : Int)
        · have hF : Hid (beginsF m area = (none, 0)) := Lib.hid (by unfold beginsF; rw [HDE.out, ← HX.out, ← HNUM.out, ← HRD.out, ← HHD.out]; dsimp only; rw [if_neg (by simp), if_pos (.inr (.inr (by omega)))])
          go_wp2_with fail
          go_ret2
          rw [hF.out]
          exact ⟨HB4.out, rfl⟩
        · have HSH := Lib.hid hsh
          have HNB := Lib.hid hnb
          have HD4 := Lib.hid (HD.out.only (Only.of_below (S := fun _ => False) HB4.out) (fun h => h) (fun h => h))
          go_wp2_with fail
          refine (first_any b mb m area ha _ HD4.out).mono ?_
          rintro e w5 ⟨rfl, hw5⟩
          have hw5 := hw5.symm
          subst hw5
          obtain ⟨at_, hat⟩ : ∃ a, a = firstF m area := ⟨_, rfl⟩
          rw [← hat]
          have HAT := Lib.hid hat
          clear hat
          go_wp2_with fail
          refine (jsize_any b mb m _ HD4.out).mono ?_
          rintro e w5 ⟨rfl, hw5⟩
          have hw5 := hw5.symm
          subst hw5
          obtain ⟨z, hz⟩ : ∃ z, z = jsize m := ⟨_, rfl⟩
          rw [← hz]
          have HZ := Lib.hid hz
          clear hz
          go_wp2_with fail
          refine (sectors_any b mb m at_ z (by have := hs; rw [← HZ.out] at this; omega) (by rw [HAT.out, HZ.out]; exact HR2.out) _ HD4.out).mono ?_
          rintro e w5 ⟨hb5, hp⟩
          have HB5 := Lib.hid (HB4.out.trans (hb5.mono HB4.out.size))
          rw [HDE.out] at hp
          obtain ⟨v, rfl, ho⟩ := hp
          have hzl : z ≤ 4096 := by have h1 := HWF.out.len; have h2 := HJ.out; have h3 := HZ.out; omega
          have hS5 := StrsAt.own ho (secsM_len m at_ z).symm (by omega)
          obtain ⟨l, hl⟩ : ∃ l, l = secsM m at_ z := ⟨_, rfl⟩
          have hll : l.length = z := by rw [hl]; exact secsM_len _ _ _
          have hls : ∀ x ∈ l, x.size = 256 := by rw [hl]; exact secsM_size HWF.out (by rw [HAT.out, HZ.out]; exact HR2.out)
          rw [← hl] at hS5
          have HL := Lib.hid hl
          have HLS := Lib.hid hls
          have HS5 := Lib.hid hS5
          obtain ⟨a5, c5, hv, hc5, hc6, hc7⟩ := hS5
          rw [hll] at hv hc5
          subst hv
          clear ho hl hls hc6 hc7 hb5
          go_wp2_with fail
          refine (frRead_strs (.slice a5 z c5) l num hnl (by omega) (fun x hx => by rw [HLS.out x hx]; decide) _ HS5.out).mono ?_
          rintro e w6 ⟨rfl, hb6⟩
          have HB6 := Lib.hid (HB5.out.trans (hb6.mono HB5.out.size))
          have HS6 := Lib.hid (HS5.out.below hb6)
          obtain ⟨r2, hr2⟩ : ∃ r2, r2 = readF l num := ⟨_, rfl⟩
          rw [← hr2]
          have HR6 := Lib.hid hr2
          clear hr2 hb6 HS5
          obtain ⟨base, n2, ok2⟩ := r2
          unfold got3
          dsimp only
          have hno : Hid (¬ (true = false ∨ s ≠ hd ∨ 2148483648 < num)) := Lib.hid (by
            rintro (h | h | h)
            · cases h
            · exact h (ByteArray.ext (Array.toList_inj.1 (by have h9 := HSH.out; rw [Go.ByteArray.toList_eq, Go.ByteArray.toList_eq] at h9; exact h9)))
            · have := HNB.out; omega)
          cases ok2
          · have hF : Hid (beginsF m area = (none, 0)) := Lib.hid (by unfold beginsF; rw [HDE.out, ← HX.out, ← HNUM.out, ← HRD.out, ← HHD.out, ← HAT.out, ← HZ.out, ← HL.out, ← HR6.out]; dsimp only; rw [if_neg (by simp), if_neg hno.out, if_pos rfl])
            go_wp2_with fail
            go_ret2
            rw [hF.out]
            exact ⟨HB6.out, rfl⟩
          · go_wp2_with fail
            have hFB : Hid (∀ rc nx us, recsF l z (num + 1) n2 [] = (rc, nx, us) → beginsF m area = (some ⟨area, base, rc, nx, us, false⟩, 0)) := Lib.hid (fun rc nx us h => by
              unfold beginsF; rw [HDE.out, ← HX.out, ← HNUM.out, ← HRD.out, ← HHD.out, ← HAT.out, ← HZ.out, ← HL.out, ← HR6.out]; dsimp only; rw [if_neg (by simp), if_neg hno.out, if_neg (by simp), h])
            have hPost : Hid (∀ (wr : World) (jb : Nat) (rc : List ByteArray) (nx us : Nat) (v : Value), jb = w6.heap.size → nx < 4294967296 → us ≤ z → nx ≤ num + 1 + us → rc.length ≤ us → Blk wr jb (jRow b v ⟨area, base, rc, nx, us, false⟩) 73 →
                wr.ownsRow (jb + 1) 9 1 v rc.length (rc.map Value.string) → Below w.heap.size w wr →
                BeginsPost b mb (some ⟨area, base, rc, nx, us, false⟩, 0) w (.returned (.tuple #[.pointer (some ⟨jb, 0, none⟩), .int .i64 0])) wr) := Lib.hid (fun wr jb rc nx us v e1 e2 e3 e4 e5 e6 e7 e8 => by
              have hsz := HB6.out.size
              refine ⟨e8, jb, v, rfl, ⟨⟨ha, e2, by show us ≤ 100000; omega, by show rc.length ≤ 1000000; omega⟩, e6, owns_rebase e7 (Nat.zero_le _)⟩, by omega, fun k hk => ?_⟩
              have := owns_block e7 k hk
              omega)
            go_step3
            go_wp2_with fail
            generalize hwA : w6.alloc _ = wA
            go_loopg [] z (fun k wr => ∃ nx us rc v, recsF l z (num + 1) n2 [] = recsF l k nx us rc ∧ z ≤ us + k ∧ us ≤ z ∧ nx ≤ num + 1 + us ∧ rc.length ≤ us ∧ Blk wr w6.heap.size (jRow b v ⟨area, base, rc, nx, us, false⟩) 73 ∧
              wr.ownsRow (w6.heap.size + 1) 9 1 v rc.length (rc.map Value.string) ∧ Below w6.heap.size w6 wr)
            case atStart =>
              have hrk := readF_ok (l := l) (num := num) (by rw [← HR6.out])
              rw [← HR6.out] at hrk
              dsimp only at hrk
              rw [hll] at hrk
              have hbA : Below w6.heap.size w6 wA := by rw [← hwA]; exact (Below.refl _ _).alloc (Nat.le_refl _) _
              refine ⟨num + 1, n2, [], .slice none 0 0, rfl, by omega, by omega, by omega, by simp, ?_, ⟨rfl, .inl ⟨rfl, rfl⟩⟩, hbA⟩
              rw [← hwA]
              exact Blk.new w6 _ 73
            case round =>
              obtain ⟨nx, us, rc, v, hq, hk, hu, hnx, hrc, hblk, hown, hB6⟩ := hrel
              have hB := HB6.out.trans (hB6.mono HB6.out.size)
              have hS := HS6.out.below hB6
              have HBR6 := Lib.hid hB6
              clear hB6
              obtain ⟨jb, hjb⟩ : ∃ jb, jb = w6.heap.size := ⟨_, rfl⟩
              rw [← hjb] at hblk hown ⊢
              have c3 : wr.cell? ⟨jb, 3, none⟩ = some v := hblk.cell 3
              have c4 : wr.cell? ⟨jb, 4, none⟩ = some (.int .u32 (nx : Int)) := hblk.cell 4
              have c5_ : wr.cell? ⟨jb, 5, none⟩ = some (.int .i64 (us : Int)) := hblk.cell 5
              have HBLK := Lib.hid hblk
              have HOWN := Lib.hid hown
              have HBR := Lib.hid hB
              have HSR := Lib.hid hS
              have HQ := Lib.hid hq
              have HJB := Lib.hid hjb
              clear hblk hown hB hS hq hwA hjb
              by_cases hlt : us < z
              · have g1 : (us : Int) < (z : Int) := by omega
                obtain ⟨b5, o5, rfl, hlt5⟩ : ∃ b5 o5, a5 = some ⟨b5, o5, none⟩ ∧ b5 < wr.heap.size := by
                  obtain ⟨a, c, he, _, _, h3⟩ := HSR.out
                  injection he with he1 _ _
                  subst he1
                  obtain ⟨b5, o5, h4, h5, _⟩ := h3 (by omega)
                  exact ⟨b5, o5, h4, h5⟩
                have q1 : (us : Int) ≤ (z : Int) := by omega
                have q2 : (z : Int) ≤ (c5 : Int) := by omega
                go_wp2_with fail
                refine wp_region_held_drew (S := fun w' => Below w.heap.size w w' ∧ w'.cell? ⟨jb, 5, none⟩ = some (.int .i64 (us : Int)) ∧ w'.cell? ⟨jb, 4, none⟩ = some (.int .u32 (nx : Int))) (by kernel_rfl) ⟨HBR.out.drew, c5_, c4⟩ (fun hHeld => ?_)
                refine take_op 0 (some 89) (v := ?_) rfl rfl (by kernel_rfl) (by kernel_rfl) (by kernel_rfl) (fun _ _ _ h => h) (Or.inl ⟨by rfl, ?_⟩) (by assumption) ?_
                rotate_left
                · intro w_ hSw_; (try dsimp only at hSw_); go_simp; (try with_reducible rfl)
                try simp only [Act.put, List.setIfInBounds_toArray, List.set_cons_zero, List.set_cons_succ]
                refine take_op 1 (some 90) (v := ?_) rfl rfl (by kernel_rfl) (by kernel_rfl) (by kernel_rfl) (fun _ _ _ h => h) (Or.inl ⟨by rfl, ?_⟩) (by assumption) ?_
                rotate_left
                · intro w_ hSw_; (try dsimp only at hSw_); go_simp; (try with_reducible rfl)
                try simp only [Act.put, List.setIfInBounds_toArray, List.set_cons_zero, List.set_cons_succ]
                refine take_op 2 (some 91) (v := ?_) rfl rfl (by kernel_rfl) (by kernel_rfl) (by kernel_rfl) (fun _ _ _ h => h) (Or.inl ⟨by rfl, ?_⟩) (by assumption) ?_
                rotate_left
                · intro w_ hSw_; (try dsimp only at hSw_); go_simp; (try with_reducible rfl)
                try simp only [Act.put, List.setIfInBounds_toArray, List.set_cons_zero, List.set_cons_succ]
                refine take_op 3 (some 92) (v := ?_) rfl rfl (by kernel_rfl) (by kernel_rfl) (by kernel_rfl) (fun _ _ _ h => h) (Or.inl ⟨by rfl, ?_⟩) (by assumption) ?_
                rotate_left
                · intro w_ hSw_; (try dsimp only at hSw_); go_simp; (try with_reducible rfl)
                try simp only [Act.put, List.setIfInBounds_toArray, List.set_cons_zero, List.set_cons_succ]
                refine take_op 4 (some 93) (v := ?_) rfl rfl (by kernel_rfl) (by kernel_rfl) (by kernel_rfl) (fun _ _ _ h => h) (Or.inl ⟨by rfl, ?_⟩) (by assumption) ?_
                rotate_left
                · intro w_ hSw_; (try dsimp only at hSw_); go_simp; (try with_reducible rfl)
                try simp only [Act.put, List.setIfInBounds_toArray, List.set_cons_zero, List.set_cons_succ]
                refine take_op 5 (some 94) (v := ?_) rfl rfl (by kernel_rfl) (by kernel_rfl) (by kernel_rfl) (fun _ _ _ h => h) (Or.inl ⟨by rfl, ?_⟩) (by assumption) ?_
                rotate_left
                · intro w_ hSw_; (try dsimp only at hSw_); go_simp; (try with_reducible rfl)
                try simp only [Act.put, List.setIfInBounds_toArray, List.set_cons_zero, List.set_cons_succ]
                refine take_op 6 (some 95) (v := ?_) rfl rfl (by kernel_rfl) (by kernel_rfl) (by kernel_rfl) (fun _ _ _ h => h) (Or.inl ⟨by rfl, ?_⟩) (by assumption) ?_
                rotate_left
                · intro w_ hSw_; (try dsimp only at hSw_); go_simp; (try with_reducible rfl)
                try simp only [Act.put, List.setIfInBounds_toArray, List.set_cons_zero, List.set_cons_succ]
                refine take_op 7 (some 96) (v := ?_) rfl rfl (by kernel_rfl) (by kernel_rfl) (by kernel_rfl) (fun _ _ _ h => h) (Or.inl ⟨by rfl, ?_⟩) (by assumption) ?_
                rotate_left
                · intro w_ hSw_; (try dsimp only at hSw_); go_simp; (try with_reducible rfl)
                try simp only [Act.put, List.setIfInBounds_toArray, List.set_cons_zero, List.set_cons_succ]
                refine take_op 8 (some 97) (v := ?_) rfl rfl (by kernel_rfl) (by kernel_rfl) (by kernel_rfl) (fun _ _ _ h => h) (Or.inl ⟨by rfl, ?_⟩) (by assumption) ?_
                rotate_left
                · intro w_ hSw_; (try dsimp only at hSw_); go_simp; (try with_reducible rfl)
                try simp only [Act.put, List.setIfInBounds_toArray, List.set_cons_zero, List.set_cons_succ]
                refine take_op 9 (some 98) (v := ?_) rfl rfl (by kernel_rfl) (by kernel_rfl) (by kernel_rfl) (fun _ _ _ h => h) (Or.inl ⟨by rfl, ?_⟩) (by assumption) ?_
                rotate_left
                · intro w_ hSw_; (try dsimp only at hSw_); go_simp; (try with_reducible rfl)
                try simp only [Act.put, List.setIfInBounds_toArray, List.set_cons_zero, List.set_cons_succ]
                refine go_op 10 rfl (by kernel_rfl) (fun K_ hK_ => ?_)
                go_simp
                have hcu : ¬ c5 = us := by omega
                rw [if_neg hcu]
                obtain ⟨L, hL⟩ : ∃ L, L = l.drop us := ⟨_, rfl⟩
                have hLl : L.length = z - us := by rw [hL, List.length_drop, hll]
                have hSL : StrsAt wr.drew (.slice (some ⟨b5, o5 + us, none⟩) (z - us) (c5 - us)) L := by
                  obtain ⟨a, c, he, _, _, h3⟩ := HSR.out
                  injection he with he1 _ _
                  obtain ⟨b6, o6, h4, h5, h6⟩ := h3 (by omega)
                  rw [← he1] at h4
                  injection h4 with h4
                  injection h4 with h4 h7 _
                  subst h4 h7
                  refine ⟨_, _, by rw [hLl], by omega, by omega, fun _ => ⟨b5, o5 + us, rfl, h5, fun j x hj => ?_⟩⟩
                  rw [hL, List.getElem?_drop] at hj
                  have := h6 (us + j) x hj
                  rw [← Nat.add_assoc] at this
                  exact this
                refine (frRead_strs _ L nx (by have := HNB.out; omega) (by omega) (fun x hx => by rw [HLS.out x (by rw [hL] at hx; exact List.mem_of_mem_drop hx)]; decide) _ hSL).mono ?_
                rintro e w7 ⟨rfl, hb7⟩
                obtain ⟨rr, hrr⟩ : ∃ rr, rr = readF L nx := ⟨_, rfl⟩
                rw [← hrr]
                have HRR := Lib.hid hrr
                have HLL := Lib.hid hL
                have HB7 := Lib.hid (HBR.out.drew.trans (hb7.mono HBR.out.drew.size))
                have HB7x := Lib.hid (HBR6.out.drew.trans (hb7.mono HBR6.out.drew.size))
                have hblk7 := HBLK.out.below ((Below.refl _ wr).drew.trans hb7) HBLK.out.lt
                have HBLK7 := Lib.hid hblk7
                have HOWN7 := Lib.hid (owns_below HOWN.out ((Below.refl _ wr).drew.trans hb7) (Nat.le_refl _))
                have HS7 := Lib.hid (HSR.out.below ((Below.refl _ wr).drew.trans hb7))
                clear hrr hL hb7 hSL hblk7
                obtain ⟨rec, n3, ok3⟩ := rr
                unfold got3
                dsimp only
                try simp only [Act.put, List.setIfInBounds_toArray, List.set_cons_zero, List.set_cons_succ]
                refine hK_.out _ _ ⟨HB7.out, HBLK7.out.cell 5, HBLK7.out.cell 4⟩ (fun hHeld_ => ?_)
                refine take_op 11 (some 88) (v := ?_) rfl rfl (by kernel_rfl) (by kernel_rfl) (by kernel_rfl) (fun _ _ _ h => h) (Or.inl ⟨by rfl, ?_⟩) (by assumption) ?_
                rotate_left
                · intro w_ hSw_; (try dsimp only at hSw_); go_simp; (try with_reducible rfl)
                try simp only [Act.put, List.setIfInBounds_toArray, List.set_cons_zero, List.set_cons_succ]
                refine take_op 12 (some 100) (v := ?_) rfl rfl (by kernel_rfl) (by kernel_rfl) (by kernel_rfl) (fun _ _ _ h => h) (Or.inl ⟨by rfl, ?_⟩) (by assumption) ?_
                rotate_left
                · intro w_ hSw_; (try dsimp only at hSw_); go_simp; (try with_reducible rfl)
                try simp only [Act.put, List.setIfInBounds_toArray, List.set_cons_zero, List.set_cons_succ]
                refine take_op 13 (some 101) (v := ?_) rfl rfl (by kernel_rfl) (by kernel_rfl) (by kernel_rfl) (fun _ _ _ h => h) (Or.inl ⟨by rfl, ?_⟩) (by assumption) ?_
                rotate_left
                · intro w_ hSw_; (try dsimp only at hSw_); go_simp; (try with_reducible rfl)
                try simp only [Act.put, List.setIfInBounds_toArray, List.set_cons_zero, List.set_cons_succ]
                refine take_op 14 (some 102) (v := ?_) rfl rfl (by kernel_rfl) (by kernel_rfl) (by kernel_rfl) (fun _ _ _ h => h) (Or.inl ⟨by rfl, ?_⟩) (by assumption) ?_
                rotate_left
                · intro w_ hSw_; (try dsimp only at hSw_); go_simp; (try with_reducible rfl)
                try simp only [Act.put, List.setIfInBounds_toArray, List.set_cons_zero, List.set_cons_succ]
                refine take_op 15 (some 16) (v := ?_) rfl rfl (by kernel_rfl) (by kernel_rfl) (by kernel_rfl) (fun _ _ _ h => h) (Or.inl ⟨by rfl, ?_⟩) (by assumption) ?_
                rotate_left
                · intro w_ hSw_; (try dsimp only at hSw_); go_simp; (try with_reducible rfl)
                try simp only [Act.put, List.setIfInBounds_toArray, List.set_cons_zero, List.set_cons_succ]
                refine take_op 16 (some 17) (v := ?_) rfl rfl (by kernel_rfl) (by kernel_rfl) (by kernel_rfl) (fun _ _ _ h => h) (Or.inl ⟨by rfl, ?_⟩) (by assumption) ?_
                rotate_left
                · intro w_ hSw_; (try dsimp only at hSw_); go_simp; (try with_reducible rfl)
                try simp only [Act.put, List.setIfInBounds_toArray, List.set_cons_zero, List.set_cons_succ]
                refine take_op 17 (some 18) (v := ?_) rfl rfl (by kernel_rfl) (by kernel_rfl) (by kernel_rfl) (fun _ _ _ h => h) (Or.inl ⟨by rfl, ?_⟩) (by assumption) ?_
                rotate_left
                · intro w_ hSw_; (try dsimp only at hSw_); go_simp; (try with_reducible rfl)
                try simp only [Act.put, List.setIfInBounds_toArray, List.set_cons_zero, List.set_cons_succ]
                refine wpAnyH_done (by kernel_rfl) ?_ _
                cases ok3
                · have hstop := recsF_stop l gk nx us rc (by rintro ⟨_, h⟩; rw [← HLL.out, ← HRR.out] at h; cases h)
                  rw [← HQ.out] at hstop
                  have hF : Hid (beginsF m area = (some ⟨area, base, rc, nx, us, false⟩, 0)) := Lib.hid (hFB.out rc nx us hstop)
                  clear hstop
                  go_wp2_with fail
                  go_ret2
                  rw [hF.out]
                  exact hPost.out w7 jb rc nx us v HJB.out (by have := HNB.out; omega) hu hnx hrc HBLK7.out HOWN7.out HB7.out
                · have c3' : w7.cell? ⟨jb, 3, none⟩ = some v := HBLK7.out.cell 3
                  have hjb7 := HBLK7.out.lt
                  have hvne : Hid (∀ k, v.ownBlock = some k → k ≠ jb) := Lib.hid (fun k hk => by have := owns_block HOWN.out k hk; omega)
                  have hok : (readF (l.drop us) nx).2.2 = true := by rw [← HLL.out, ← HRR.out]
                  obtain ⟨k', hk', hst, hle1, hle2⟩ := recsF_step l gk nx us rc (by omega) (by omega) hok
                  rw [← HLL.out, ← HRR.out] at hst hle1 hle2
                  dsimp only at hst hle1 hle2
                  have hn1 := (readF_ok hok).1
                  rw [← HLL.out, ← HRR.out] at hn1
                  dsimp only at hn1
                  have F1 : Hid (z ≤ us + n3 + k' ∧ us + n3 ≤ z ∧ nx + 1 ≤ num + 1 + (us + n3) ∧ (rc ++ [rec]).length ≤ us + n3) := Lib.hid ⟨by omega, by omega, by omega, by rw [List.length_append, List.length_singleton]; omega⟩
                  have E4 : Hid ((nx : Int) + 1 = ((nx + 1 : Nat) : Int)) := Lib.hid (by omega)
                  have E5 : Hid (Go.RowKit.wrap64 ((us : Int) + (n3 : Int)) = ((us + n3 : Nat) : Int)) := Lib.hid (by unfold Go.RowKit.wrap64; omega)
                  have HST := Lib.hid hst
                  have HK := Lib.hid hk'
                  clear hst hle1 hle2 hn1 hok hk'
                  obtain ⟨w8, hw8⟩ : ∃ w8, w8 = w7.alloc (.cells #[.string rec] 9) := ⟨_, rfl⟩
                  have hb8 : Below w7.heap.size w7 w8 := by rw [hw8]; exact (Below.refl _ w7).alloc (Nat.le_refl _) _
                  have c8 : w8.cell? ⟨w7.heap.size, 0, none⟩ = some (.string rec) := by rw [hw8]; exact (Blk.new w7 #[.string rec] 9).cell 0
                  have hl8 : w7.heap.size < w8.heap.size := by rw [hw8]; exact (Blk.new w7 #[.string rec] 9).lt
                  have HB8x := Lib.hid (HB7x.out.trans (hb8.mono HB7x.out.size))
                  have HO8 := Lib.hid (owns_below HOWN7.out hb8 (Nat.le_refl _))
                  have HBLK8 := Lib.hid (HBLK7.out.below hb8 HBLK7.out.lt)
                  have hsrc : Hid (0 < [rec].length → ∃ b o, some (⟨w7.heap.size, 0, none⟩ : Addr) = some ⟨b, o, none⟩ ∧ b < w8.heap.size ∧ ∀ (j : Nat) y, [rec][j]? = some y → w8.cell? ⟨b, o + j, none⟩ = some (.string y)) := Lib.hid (fun _ => ⟨_, 0, rfl, hl8, fun j y hj => by
                    cases j with
                    | zero => obtain rfl := Option.some.inj hj; exact c8
                    | succ j => simp at hj⟩)
                  have hbs : jb + 1 ≤ w8.heap.size := by omega
                  clear hb8 c8 hl8
                  go_wp2_with (first | ((with_reducible refine at_appStrs (jb + 1) v rc.length rc [rec] (some ⟨w7.heap.size, 0, none⟩) 1 1 rfl (hw8 ▸ HO8.out) (hw8 ▸ hsrc.out) ?_ (hw8 ▸ hbs) ?_ ?_ ?_); omega; exact rfl; exact rfl; intro v9 w9 ho9 hg9 hv9; obtain ⟨g9, cap9, hv10⟩ := own_slice ho9; subst hv10; have hblk9 : Blk w9 jb (jRow b v ⟨area, base, rc, nx, us, false⟩) 73 := (Only.of_grownBy (S := fun k => v.ownBlock = some k) hg9 (fun k hk => hk)).blk (hw8 ▸ HBLK8.out) (fun h => hvne.out jb h rfl); have f3 := hblk9.free 3; have f4 := hblk9.free 4; have f5 := hblk9.free 5; have d3 : w9.cell? ⟨jb, 3, none⟩ = some v := hblk9.cell 3; have d4 : w9.cell? ⟨jb, 4, none⟩ = some (.int .u32 (nx : Int)) := hblk9.cell 4; have d5 : w9.cell? ⟨jb, 5, none⟩ = some (.int .i64 (us : Int)) := hblk9.cell 5) | fail)
                  have hk' := HK.out
                  subst hk'
                  have hjbe := HJB.out
                  subst hjbe
                  go_roundg k'
                  · obtain ⟨wF, hwF⟩ : ∃ wF, wF = ((w9.setCell ⟨w6.heap.size, 3, none⟩ (.slice (some ⟨g9, 0, none⟩) (rc.length + 1) cap9)).setCell ⟨w6.heap.size, 4, none⟩ (.int .u32 ((nx + 1 : Nat) : Int))).setCell ⟨w6.heap.size, 5, none⟩ (.int .i64 ((us + n3 : Nat) : Int)) := ⟨_, rfl⟩
                    have hfin : Only (fun k => k = w6.heap.size) w9 wF := by
                      rw [hwF]
                      exact (((Only.refl (fun k => k = w6.heap.size) w9).setCell (fun _ => rfl) _).setCell (fun _ => rfl) _).setCell (fun _ => rfl) _
                    have hblkF : Blk wF w6.heap.size (jRow b (.slice (some ⟨g9, 0, none⟩) (rc.length + 1) cap9) ⟨area, base, rc ++ [rec], nx + 1, us + n3, false⟩) 73 := by
                      rw [hwF]
                      exact ((hblk9.setCell 3 (.slice (some ⟨g9, 0, none⟩) (rc.length + 1) cap9)).setCell 4 (.int .u32 ((nx + 1 : Nat) : Int))).setCell 5 (.int .i64 ((us + n3 : Nat) : Int))
                    rw [E4.out, E5.out, ← hwF]
                    have hown9 := owns_block HO8.out
                    have hob9 := owns_block ho9
                    rw [← hw8] at hg9
                    have hB9 : Below w6.heap.size w6 w9 := HB8x.out.trans (below_grown hg9 HB8x.out.size (fun k hk => Nat.le_of_succ_le (hown9 k hk)))
                    obtain ⟨f1, f2, f3, f4⟩ := F1.out
                    refine ⟨nx + 1, us + n3, rc ++ [rec], .slice (some ⟨g9, 0, none⟩) (rc.length + 1) cap9, by rw [HQ.out]; exact HST.out, f1, f2, f3, f4, hblkF, ?_, ?_⟩
                    · rw [List.length_append, List.length_singleton]
                      exact owns_only ho9 hfin (fun k hk e => by have := hob9 k hk; rw [e] at this; exact Nat.lt_irrefl _ this)
                    · exact hB9.trans (hfin.below hB9.size (fun k hk e => by rw [e] at hk; exact Nat.lt_irrefl _ hk))
                  · exact Nat.lt_succ_self k'
              · have g1 : ¬ (us : Int) < (z : Int) := by omega
                have hstop := recsF_stop l gk nx us rc (by rw [hll]; intro h; omega)
                rw [← HQ.out] at hstop
                have hF : Hid (beginsF m area = (some ⟨area, base, rc, nx, us, false⟩, 0)) := Lib.hid (hFB.out rc nx us hstop)
                clear hstop
                go_wp2_with fail
                go_ret2
                rw [hF.out]
                exact hPost.out wr jb rc nx us v HJB.out (by have := HNB.out; omega) hu hnx hrc HBLK.out HOWN.out HBR.out
      · have hF : Hid (beginsF m area = (none, 0)) := Lib.hid (by unfold beginsF; rw [HDE.out, ← HX.out, ← HNUM.out, ← HRD.out, ← HHD.out]; dsimp only; rw [if_neg (by simp), if_pos (.inr (.inl (fun h => hsh (by rw [h]))))])
        go_wp2_with fail
        go_ret2
        rw [hF.out]
        exact ⟨HB4.out, rfl⟩
  · rw [hde] at hp
    have hp : e = .returned (.tuple #[.slice none 0 0, .int .i64 74]) := hp
    subst hp
    have hF : Hid (beginsF m area = (none, 74)) := Lib.hid (by unfold beginsF; rw [hde]; rfl)
    clear hde
    go_wp2_with fail
    go_ret2
    rw [hF.out]
    exact ⟨HB1.out, rfl⟩
end Go.Proofs.YtcakellhellddaaGreatDoor
