/- Opened again and again a journal tells the same; of what was on the disk ahead of Format nothing is read behind it. No condition; longer lists or texts than the statement's own limits ask the example alone. -/
import Derived.Test.YtnplcjcbojjecaaDoorRows
import Derived.Test.YtnplcjcbojjecaaDoorCards
import Derived.Test.YtnplcjcbojjecaaDoorTie
import Derived.Test.YtnplcjcbojjecaaDoorJoWalk
import Derived.Test.YtnplcjcbojjecaaDoorKStr
import Derived.ProofKit
import Derived.OpenShut
import Derived.ShutString
import Derived.Lay
import Derived.PinnedBridge
import Derived.SevenTiedAt
set_option linter.unusedSimpArgs false
set_option linter.unusedVariables false
namespace Go.Proofs.YtnplcjcbojjecaaDoor.journalAgain
open Go.ChangeShapes Go.WideShapes Go.ChangeAt Go.RowKit
open Go.ChangeMaps (open_string shut_string)
def eElder : ByteArray := ⟨#[101, 108, 100, 101, 114]⟩
theorem j120 {m : DM} (h : m.S.length = 120) : jsize m = 59 := by unfold jsize; rw [h]; rfl
/-- What holds at the head of a loop in which what is wanted is gathered. -/
structure At2 (w : World) (b mb : Nat) (m : DM) (j : JM) (num jb : Nat) (v x : Value) (wr : World) : Prop where
  js : JS w b mb m j num jb v wr
  own : wr.ownsRow w.heap.size 9 1 x j.recs.length (j.recs.map Value.string)
  sep : ∀ k, x.ownBlock = some k → ¬ owned b mb jb v k
  base : j.base = ByteArray.empty
  len : m.S.length = 120
theorem At2.below {w wr wr' : World} {b mb num jb : Nat} {m : DM} {j : JM} {v x : Value} (h : At2 w b mb m j num jb v x wr) (hb : Below wr.heap.size wr wr') : At2 w b mb m j num jb v x wr' :=
  ⟨h.js.below hb, owns_below h.own hb (Nat.le_refl _), h.sep, h.base, h.len⟩
set_option maxRecDepth 100000 in
set_option maxHeartbeats 8000000 in
theorem walk (w : World) (ve : Value) (elder : List ByteArray) (he : SlR kSt w elder ve) (vr : Value) (recs : List ByteArray) (hr : SlR kSt w recs vr) :
    Calls Tryd.prog 9 #[ve, vr] w fun e w' => e = .returned (.bool true) ∧ Below w.heap.size w w' := by
  obtain ⟨hse, hle, _⟩ := strs_in he
  obtain ⟨hsr, hlr, _⟩ := strs_in hr
  obtain ⟨ae, ce, rfl, _, hce⟩ := hse.out
  obtain ⟨ar, cr, rfl, _, hcr⟩ := hsr.out
  have HCE := Lib.hid hce
  have HCR := Lib.hid hcr
  unfold maxLen at hle hlr
  obtain ⟨ne, hne⟩ : ∃ n, n = elder.length := ⟨_, rfl⟩
  obtain ⟨nr, hnr⟩ : ∃ n, n = recs.length := ⟨_, rfl⟩
  rw [← hne] at hle HCE ⊢
  rw [← hnr] at hlr HCR ⊢
  have HNE := Lib.hid hne
  have HNR := Lib.hid hnr
  clear hse hsr hce hcr hne hnr he hr
  have hem : ByteArray.empty.toList = [] := by rw [Go.ByteArray.toList_eq]; rfl
  go_enter Tryd.func9, Tryd.ntmps9
  go_wp2_with fail
  refine (new_any 120 (by decide) (by decide) _).mono ?_
  rintro e w1 ⟨b, mb, rfl, hd1, hb1, hlb, hlmb⟩
  have HD1 := Lib.hid hd1
  have HB1 := Lib.hid hb1
  clear hd1 hb1
  go_wp2_with fail
  have hl0 : (dNew 120).S.length = 120 := by simp [dNew]
  refine (js_format (w := w) HD1.out rfl rfl (dNew_whole 120) (by rw [dNew_top]; omega) (by rw [j120 hl0]; decide) eElder (by decide) (by rw [j120 hl0]; decide) hlb hlmb HB1.out).mono ?_
  rintro e w2 ⟨m2, jb, rfl, hj2, hl2, hw2, _, _, _⟩
  have HB := Lib.hid hj2.bel
  have hstart : Hid (∃ (i : Nat) (m : DM) (j : JM) (num : Nat) (v : Value), i ≤ ne ∧ 0 = i ∧ JS w b mb m j num jb v w2 ∧ WholeM m ∧ m.S.length = 120 ∧ j.next ≤ 2 + i) :=
    Lib.hid ⟨0, _, _, _, _, Nat.zero_le _, rfl, hj2, hw2, hl2.trans hl0, by rw [dNew_top]; exact Nat.le_refl _⟩
  clear hj2 hl2 hw2 hl0
  by_cases h30 : 30 < ne
  · have g1 : (30 : Int) < (ne : Int) := by omega
    go_wp2_with fail
    refine (wakes12_any _).mono ?_
    rintro e w9 ⟨rfl, hb9⟩
    have HB9 := Lib.hid (HB.out.trans (hb9.mono HB.out.size))
    clear hb9
    go_wp2_with fail
    go_ret
    exact ⟨rfl, HB9.out⟩
  · have g1 : ¬ (30 : Int) < (ne : Int) := by omega
    by_cases h20 : 20 < nr
    · have g2 : (20 : Int) < (nr : Int) := by omega
      go_wp2_with fail
      refine (wakes12_any _).mono ?_
      rintro e w9 ⟨rfl, hb9⟩
      have HB9 := Lib.hid (HB.out.trans (hb9.mono HB.out.size))
      clear hb9
      go_wp2_with fail
      go_ret
      exact ⟨rfl, HB9.out⟩
    · have g2 : ¬ (20 : Int) < (nr : Int) := by omega
      go_wp2_with fail
      go_loopw [9] (fun y wr => ∃ (i : Nat) (m : DM) (j : JM) (num : Nat) (v : Value), i ≤ ne ∧ y = .int .i64 i ∧ JS w b mb m j num jb v wr ∧ WholeM m ∧ m.S.length = 120 ∧ j.next ≤ 2 + i) (fun y _ => ne - (intOf y).toNat)
      case atStart =>
        obtain ⟨i, m, j, num, v, h1, rfl, h2⟩ := hstart.out
        exact ⟨0, m, j, num, v, h1, rfl, h2⟩
      case round =>
        obtain ⟨i, m, j, num, v, hi, rfl, hjs, hwm, hlm, hnx⟩ := hrel
        have HJS := Lib.hid hjs
        have HWM := Lib.hid hwm
        have HLM := Lib.hid hlm
        have HB := Lib.hid hjs.bel
        clear hjs hwm hlm
        by_cases hlt : i < ne
        · have g3 : (i : Int) < (ne : Int) := by omega
          obtain ⟨x, hx⟩ : ∃ x, elder[i]? = some x := ⟨elder[i]'(by have := HNE.out; omega), List.getElem?_eq_getElem _⟩
          obtain ⟨be, oe, rfl, hbe, hc⟩ := HCE.out (by omega)
          have ci : wr.cell? ⟨be, oe + i, none⟩ = some (.string x) := (HB.out.cell (p := ⟨be, oe + i, none⟩) hbe).trans (hc i x hx)
          clear hc hx
          by_cases hbig : 2000 < x.size
          · have g4 : (2000 : Int) < (x.size : Int) := by omega
            go_wp2_with fail
            refine (wakes12_any _).mono ?_
            rintro e w9 ⟨rfl, hb9⟩
            have HB9 := Lib.hid (HB.out.trans (hb9.mono HB.out.size))
            clear hb9
            go_wp2_with fail
            go_ret
            exact ⟨rfl, HB9.out⟩
          · have g4 : ¬ (2000 : Int) < (x.size : Int) := by omega
            by_cases h5 : (i : Int) % 5 = 2
            · go_wp2_with fail
              refine (js_save HJS.out x (by omega)).mono ?_
              rintro e w3 ⟨er, m', j', num', v', rfl, hjs, hl, hw, ho, hown, hcase⟩
              have hnx' : j'.next ≤ 2 + (i + 1) := by
                rcases hcase with ⟨_, e, _⟩ | ⟨_, e, _⟩ | ⟨_, e, _⟩
                · rw [e]; show j.next + 1 ≤ _; omega
                · rw [e]; omega
                · rw [e]; omega
              have HR := Lib.hid (show JS w b mb m' j' num' jb v' w3 ∧ WholeM m' ∧ m'.S.length = 120 ∧ j'.next ≤ 2 + (i + 1) from ⟨hjs, hw HWM.out, hl.trans HLM.out, hnx'⟩)
              clear hjs hl hw ho hown hcase hnx'
              go_wp2_with fail
              exact ⟨⟨i + 1, m', j', num', v', by omega, by go_num, HR.out⟩, by simp [intOf]; omega⟩
            · go_wp2_with fail
              refine (js_append HJS.out x (by omega)).mono ?_
              rintro e w3 ⟨er, m', j', num', v', rfl, hjs, hl, hw, ho, hown, hcase⟩
              have hnx' : j'.next ≤ 2 + (i + 1) := by
                rcases hcase with ⟨_, e, _⟩ | ⟨_, e, _⟩ | ⟨_, e, _⟩
                · rw [e]; show j.next + 1 ≤ _; omega
                · rw [e]; omega
                · rw [e]; omega
              have HR := Lib.hid (show JS w b mb m' j' num' jb v' w3 ∧ WholeM m' ∧ m'.S.length = 120 ∧ j'.next ≤ 2 + (i + 1) from ⟨hjs, hw HWM.out, hl.trans HLM.out, hnx'⟩)
              clear hjs hl hw ho hown hcase hnx'
              go_wp2_with fail
              exact ⟨⟨i + 1, m', j', num', v', by omega, by go_num, HR.out⟩, by simp [intOf]; omega⟩
        · have g3 : ¬ (i : Int) < (ne : Int) := by omega
          have htop : topN m m.S.length ≤ 32 := topN_le _ (fun k hk => by
            have h1 := HJS.out.on.all k hk
            have h2 := secNum_le_tail (DM.at_size HJS.out.disk.wf hk)
            have := g1
            omega)
          obtain ⟨t, ht⟩ : ∃ t, t = topN m m.S.length := ⟨_, rfl⟩
          have HT := Lib.hid ht
          have hj59 : jsize m = 59 := j120 HLM.out
          rw [← ht] at htop
          have HTOP := Lib.hid htop
          have HJ59 := Lib.hid hj59
          clear ht htop hj59
          go_wp2_with fail
          refine (js_format HJS.out.disk HJS.out.md HJS.out.ma HWM.out (by have := HTOP.out; rw [← HT.out]; omega) (by rw [HJ59.out]; decide) ByteArray.empty (by decide) (by rw [HJ59.out]; decide) HJS.out.b0 HJS.out.mb0 HJS.out.bel).mono ?_
          rintro e w3 ⟨m3, j3, rfl, hj3, hl3, _, _, ho3, hlj3⟩
          rw [← HT.out] at hj3
          have HJ3 := Lib.hid hj3
          have HL3 := Lib.hid (hl3.trans HLM.out)
          have HB := Lib.hid hj3.bel
          clear hj3 hl3 ho3 hlj3
          have hsz : sizeN ByteArray.empty.size = 1 := rfl
          have htt : t ≤ 32 := HTOP.out
          go_wp2_with fail
          go_loopw [7, 10, 11] (fun x7 x10 x11 wr => ∃ (i : Nat) (m : DM) (j : JM) (num jb : Nat) (v X : Value), i ≤ nr ∧ x11 = .int .i64 i ∧ x7 = .pointer (some ⟨jb, 0, none⟩) ∧ X = x10 ∧ At2 w b mb m j num jb v X wr ∧ j.next ≤ 100 + i ∧ j.recs.length ≤ i) (fun _ _ y _ => nr - (intOf y).toNat)
          case atStart => exact ⟨0, _, _, _, _, _, _, Nat.zero_le _, rfl, rfl, rfl, ⟨HJ3.out, ⟨rfl, .inl ⟨rfl, rfl⟩⟩, (fun k hk => by cases hk), rfl, HL3.out⟩, by show t + 2 ≤ _; omega, Nat.le_refl _⟩
          case round =>
            obtain ⟨i, m, j, num, jb, v, x10, hi, rfl, rfl, rfl, hA, hnx, hln⟩ := hrel
            have HA := Lib.hid hA
            have HB := Lib.hid hA.js.bel
            have hj59 : jsize m = 59 := j120 hA.len
            have HJ59 := Lib.hid hj59
            clear hA hj59
            by_cases hlt : i < nr
            · have g3 : (i : Int) < (nr : Int) := by omega
              obtain ⟨x, hx⟩ : ∃ x, recs[i]? = some x := ⟨recs[i]'(by have := HNR.out; omega), List.getElem?_eq_getElem _⟩
              obtain ⟨be, oe, rfl, hbe, hc⟩ := HCR.out (by omega)
              have ci : wr.cell? ⟨be, oe + i, none⟩ = some (.string x) := (HB.out.cell (p := ⟨be, oe + i, none⟩) hbe).trans (hc i x hx)
              have HCI := Lib.hid (hc i x hx)
              clear hc hx
              by_cases hbig : 2000 < x.size
              · have g4 : (2000 : Int) < (x.size : Int) := by omega
                go_wp2_with fail
                refine (wakes12_any _).mono ?_
                rintro e w9 ⟨rfl, hb9⟩
                have HB9 := Lib.hid (HB.out.trans (hb9.mono HB.out.size))
                clear hb9
                go_wp2_with fail
                go_ret
                exact ⟨rfl, HB9.out⟩
              · have g4 : ¬ (2000 : Int) < (x.size : Int) := by omega
                go_wp2_with fail
                refine (js_append HA.out.js x (by omega)).mono ?_
                rintro e w3 ⟨er, m', j', num', v', rfl, hjs, hl, _, ho, hown, hcase⟩
                have hlt10 := own_lt HA.out.own
                have hown3 := owns_only HA.out.own ho HA.out.sep
                have hsep3 : ∀ k, x10.ownBlock = some k → ¬ owned b mb jb v' k := fun k hk h => by
                  rcases hown k h with e | e
                  · exact HA.out.sep k hk e
                  · have := hlt10 k hk; omega
                have HL := Lib.hid (hl.trans HA.out.len)
                have HSEP3 := Lib.hid hsep3
                have HOWN3 := Lib.hid hown3
                have HJS := Lib.hid hjs
                have ci3 : w3.cell? ⟨be, oe + i, none⟩ = some (.string x) := (hjs.bel.cell (p := ⟨be, oe + i, none⟩) hbe).trans HCI.out
                clear ho hown hsep3 hown3 hjs hl hlt10 ci
                rcases hcase with ⟨rfl, hj', _⟩ | ⟨rfl, hj', _⟩ | ⟨_, _, _, hbad⟩
                · have hr1 : j'.recs = j.recs ++ [x] := by rw [hj']; rfl
                  have hr2 : j'.recs.length = j.recs.length + 1 := by rw [hr1]; exact List.length_append.trans rfl
                  have hb' : j'.base = ByteArray.empty := by rw [hj']; exact HA.out.base
                  have HN9 := Lib.hid (show j'.next ≤ 100 + (i + 1) ∧ j'.recs.length ≤ i + 1 from ⟨by rw [hj']; show j.next + 1 ≤ _; omega, by omega⟩)
                  have HR1 := Lib.hid hr1
                  have HR2 := Lib.hid hr2
                  have HBS := Lib.hid hb'
                  obtain ⟨w4, hw4⟩ : ∃ w4, w4 = w3.alloc (.cells #[.string x] 9) := ⟨_, rfl⟩
                  have hb4 : Below w3.heap.size w3 w4 := by rw [hw4]; exact (Below.refl _ w3).alloc (Nat.le_refl _) _
                  have c4 : w4.cell? ⟨w3.heap.size, 0, none⟩ = some (.string x) := by rw [hw4]; exact (Blk.new w3 #[.string x] 9).cell 0
                  have hl4 : w3.heap.size < w4.heap.size := by rw [hw4]; exact (Blk.new w3 #[.string x] 9).lt
                  have hsrc : Hid (0 < [x].length → ∃ b o, some (⟨w3.heap.size, 0, none⟩ : Addr) = some ⟨b, o, none⟩ ∧ b < w4.heap.size ∧ ∀ (j : Nat) y, [x][j]? = some y → w4.cell? ⟨b, o + j, none⟩ = some (.string y)) := Lib.hid (fun _ => ⟨_, 0, rfl, hl4, fun j y hj => by
                    cases j with
                    | zero => obtain rfl := Option.some.inj hj; exact c4
                    | succ j => simp at hj⟩)
                  have HJ4 := Lib.hid (HJS.out.below hb4)
                  have HO4 := Lib.hid (owns_below HOWN3.out hb4 (Nat.le_refl _))
                  have hz4 : w.heap.size ≤ w4.heap.size := HJ4.out.bel.size
                  clear hb4 c4 hl4 hr1 hr2 hb' hj'
                  go_wp2_with (first | ((with_reducible refine at_appStrs w.heap.size x10 j.recs.length j.recs [x] (some ⟨w3.heap.size, 0, none⟩) 1 1 rfl (hw4 ▸ HO4.out) (hw4 ▸ hsrc.out) ?_ (hw4 ▸ hz4) ?_ ?_ ?_); omega; exact rfl; exact rfl; intro v5 w5 ho5 hg5 hv5) | fail)
                  have hg5 : w4.grownBy w5 x10.ownBlock := by rw [hw4]; exact hg5
                  have hv5 : v5.ownBlock = x10.ownBlock ∨ v5.ownBlock = some w4.heap.size := by rw [hw4]; exact hv5
                  have hz34 : w3.heap.size ≤ w4.heap.size := by rw [hw4]; exact ((Below.refl _ w3).alloc (Nat.le_refl _) (.cells #[.string x] 9)).size
                  have HI := Lib.hid (show At2 w b mb m' j' num' jb v' v5 w5 from ⟨HJ4.out.only (Only.of_grownBy (S := fun k => x10.ownBlock = some k) hg5 (fun k hk => hk)) (fun k ho hk => HSEP3.out k hk ho) (fun k hk h => by have := owns_block HOWN3.out k h; omega),
                    by rw [HR1.out, List.length_append, List.length_singleton]; exact ho5, (fun k hk ho => by
                      rcases hv5 with e | e
                      · rw [hk] at e; exact HSEP3.out k e.symm ho
                      · rw [hk] at e
                        have := HJS.out.old k ho
                        have := Option.some.inj e
                        omega), HBS.out, HL.out⟩)
                  clear ho5 hg5 hv5 hz34 hw4
                  go_loopw [7, 13] (fun x7 x13 wr => ∃ (k jb : Nat) (v : Value), k ≤ 2 ∧ x13 = .int .i64 k ∧ x7 = .pointer (some ⟨jb, 0, none⟩) ∧ At2 w b mb m' j' num' jb v v5 wr) (fun _ y _ => 2 - (intOf y).toNat)
                  case atStart => exact ⟨0, _, _, Nat.zero_le _, rfl, rfl, HI.out⟩
                  case round =>
                    obtain ⟨k, jb, v, hk, rfl, rfl, hA⟩ := hrel
                    have HA := Lib.hid hA
                    have HB := Lib.hid hA.js.bel
                    clear hA
                    by_cases hk2 : k < 2
                    · have g8 : (k : Int) < 2 := by omega
                      go_wp2_with fail
                      refine (jnext_any jb b v j' _ HA.out.js.jo).mono ?_
                      rintro e w6 ⟨rfl, hw6⟩
                      have hw6 := hw6.symm
                      subst hw6
                      go_wp2_with fail
                      refine (jleft_any jb b mb v j' m' _ HA.out.js.jo HA.out.js.disk).mono ?_
                      rintro e w6 ⟨rfl, hb6⟩
                      have HA6 := Lib.hid (HA.out.below hb6)
                      clear hb6
                      go_wp2_with fail
                      refine (js_open HA6.out.js).mono ?_
                      rintro e w7 ⟨jb7, v7, rfl, hjs7, hb7, hown7⟩
                      have HA7 := Lib.hid (show At2 w b mb m' j' num' jb7 v7 v5 w7 from ⟨hjs7, owns_below HA6.out.own hb7 (Nat.le_refl _), (fun q hq ho => by
                        have h1 := own_lt HA6.out.own q hq
                        rcases hown7 q ho with e | e
                        · exact HA6.out.sep q hq (.inl e)
                        · omega), HA6.out.base, HA6.out.len⟩)
                      clear hjs7 hb7 hown7
                      go_wp2_with fail
                      refine (jbase_any jb7 b v7 j' _ HA7.out.js.jo).mono ?_
                      rintro e w8 ⟨rfl, hw8⟩
                      have hw8 := hw8.symm
                      subst hw8
                      rw [HA7.out.base]
                      go_wp2_with fail
                      refine (jrecords_any jb7 b v7 j' _ HA7.out.js.jo).mono ?_
                      rintro e w8 ⟨v8, rfl, hs8, _, hb8⟩
                      have HA8 := Lib.hid (HA7.out.below hb8)
                      have HS8 := Lib.hid hs8
                      clear hb8 hs8
                      go_wp2_with fail
                      refine (texts_any _ _ j'.recs j'.recs _ HS8.out (StrsAt.own HA8.out.own rfl (by have := HA8.out.js.jo.wf.recs; omega))).mono ?_
                      rintro e w9 ⟨rfl, hb9⟩
                      have HA9 := Lib.hid (HA8.out.below hb9)
                      clear hb9
                      generalize hq9 : decide (j'.recs = j'.recs) = q9
                      obtain rfl : q9 = true := by rw [← hq9]; exact decide_eq_true rfl
                      clear hq9
                      go_wp2_with fail
                      refine (jnext_any jb7 b v7 j' _ HA9.out.js.jo).mono ?_
                      rintro e w10 ⟨rfl, hw10⟩
                      have hw10 := hw10.symm
                      subst hw10
                      go_wp2_with fail
                      refine (jleft_any jb7 b mb v7 j' m' _ HA9.out.js.jo HA9.out.js.disk).mono ?_
                      rintro e w10 ⟨rfl, hb10⟩
                      have HA10 := Lib.hid (HA9.out.below hb10)
                      clear hb10
                      go_wp2_with fail
                      go_roundw
                      case rel => exact ⟨k + 1, jb7, v7, by omega, by go_num, rfl, HA10.out⟩
                      case measure => simp [intOf]; omega
                    · have g8 : ¬ (k : Int) < 2 := by omega
                      go_wp2_with fail
                      go_roundw
                      case rel => exact ⟨i + 1, m', j', num', jb, v, v5, by omega, by go_num, rfl, rfl, HA.out, HN9.out⟩
                      case measure => simp [intOf]; omega
                · subst hj'
                  have HI := Lib.hid (show At2 w b mb m' j' num' jb v' x10 w3 from ⟨HJS.out, HOWN3.out, HSEP3.out, HA.out.base, HL.out⟩)
                  have HN9 := Lib.hid (show j'.next ≤ 100 + (i + 1) ∧ j'.recs.length ≤ i + 1 from ⟨by omega, by omega⟩)
                  go_wp2_with fail
                  go_loopw [7, 13] (fun x7 x13 wr => ∃ (k jb : Nat) (v : Value), k ≤ 2 ∧ x13 = .int .i64 k ∧ x7 = .pointer (some ⟨jb, 0, none⟩) ∧ At2 w b mb m' j' num' jb v x10 wr) (fun _ y _ => 2 - (intOf y).toNat)
                  case atStart => exact ⟨0, _, _, Nat.zero_le _, rfl, rfl, HI.out⟩
                  case round =>
                    obtain ⟨k, jb, v, hk, rfl, rfl, hA⟩ := hrel
                    have HA := Lib.hid hA
                    have HB := Lib.hid hA.js.bel
                    clear hA
                    by_cases hk2 : k < 2
                    · have g8 : (k : Int) < 2 := by omega
                      go_wp2_with fail
                      refine (jnext_any jb b v j' _ HA.out.js.jo).mono ?_
                      rintro e w6 ⟨rfl, hw6⟩
                      have hw6 := hw6.symm
                      subst hw6
                      go_wp2_with fail
                      refine (jleft_any jb b mb v j' m' _ HA.out.js.jo HA.out.js.disk).mono ?_
                      rintro e w6 ⟨rfl, hb6⟩
                      have HA6 := Lib.hid (HA.out.below hb6)
                      clear hb6
                      go_wp2_with fail
                      refine (js_open HA6.out.js).mono ?_
                      rintro e w7 ⟨jb7, v7, rfl, hjs7, hb7, hown7⟩
                      have HA7 := Lib.hid (show At2 w b mb m' j' num' jb7 v7 x10 w7 from ⟨hjs7, owns_below HA6.out.own hb7 (Nat.le_refl _), (fun q hq ho => by
                        have h1 := own_lt HA6.out.own q hq
                        rcases hown7 q ho with e | e
                        · exact HA6.out.sep q hq (.inl e)
                        · omega), HA6.out.base, HA6.out.len⟩)
                      clear hjs7 hb7 hown7
                      go_wp2_with fail
                      refine (jbase_any jb7 b v7 j' _ HA7.out.js.jo).mono ?_
                      rintro e w8 ⟨rfl, hw8⟩
                      have hw8 := hw8.symm
                      subst hw8
                      rw [HA7.out.base]
                      go_wp2_with fail
                      refine (jrecords_any jb7 b v7 j' _ HA7.out.js.jo).mono ?_
                      rintro e w8 ⟨v8, rfl, hs8, _, hb8⟩
                      have HA8 := Lib.hid (HA7.out.below hb8)
                      have HS8 := Lib.hid hs8
                      clear hb8 hs8
                      go_wp2_with fail
                      refine (texts_any _ _ j'.recs j'.recs _ HS8.out (StrsAt.own HA8.out.own rfl (by have := HA8.out.js.jo.wf.recs; omega))).mono ?_
                      rintro e w9 ⟨rfl, hb9⟩
                      have HA9 := Lib.hid (HA8.out.below hb9)
                      clear hb9
                      generalize hq9 : decide (j'.recs = j'.recs) = q9
                      obtain rfl : q9 = true := by rw [← hq9]; exact decide_eq_true rfl
                      clear hq9
                      go_wp2_with fail
                      refine (jnext_any jb7 b v7 j' _ HA9.out.js.jo).mono ?_
                      rintro e w10 ⟨rfl, hw10⟩
                      have hw10 := hw10.symm
                      subst hw10
                      go_wp2_with fail
                      refine (jleft_any jb7 b mb v7 j' m' _ HA9.out.js.jo HA9.out.js.disk).mono ?_
                      rintro e w10 ⟨rfl, hb10⟩
                      have HA10 := Lib.hid (HA9.out.below hb10)
                      clear hb10
                      go_wp2_with fail
                      go_roundw
                      case rel => exact ⟨k + 1, jb7, v7, by omega, by go_num, rfl, HA10.out⟩
                      case measure => simp [intOf]; omega
                    · have g8 : ¬ (k : Int) < 2 := by omega
                      go_wp2_with fail
                      go_roundw
                      case rel => exact ⟨i + 1, m', j', num', jb, v, x10, by omega, by go_num, rfl, rfl, HA.out, HN9.out⟩
                      case measure => simp [intOf]; omega
                · omega
            · have g3 : ¬ (i : Int) < (nr : Int) := by omega
              go_wp2_with fail
              refine (wakes12_any _).mono ?_
              rintro e w9 ⟨rfl, hb9⟩
              have HB9 := Lib.hid (HB.out.trans (hb9.mono HB.out.size))
              clear hb9
              go_wp2_with fail
              go_ret
              exact ⟨rfl, HB9.out⟩
theorem own : ownKnob Tryd.prog.godebug = none := by kernel_rfl
theorem laidOut : laidOutB Tryd.prog = true := by kernel_rfl
set_option maxRecDepth 100000 in
theorem lifted (os : Os) (started : os.Started) (H : Type) (enc : TypeId × Value → H) :
    ReturnsInHanded {} Tryd.checked os 9 .any (fun w args => (Rows.journalAgainSpec.pre enc Tryd.prog Tryd.f9 [] false w args ∧ laidMetH Tryd.prog Rows.journalAgainRow.laid w) ∧ sizedMet enc Tryd.prog Tryd.f9 (OpenSpec.ofChange Rows.journalAgainSpec) false w args) (Rows.journalAgainSpec.post enc Tryd.prog Tryd.f9 false true false false) := by
  refine returnsInHanded_of_change_and (C := Tryd.checked) (X := fun w _ => laidMetH Tryd.prog Rows.journalAgainRow.laid w) (fun _ _ _ hh h => h.of_heap hh) own started (by kernel_rfl) Tryd.func9
    (ChangeSpec.witness_shaped (enc := enc) (C := Tryd.checked) (os := os) (X := fun w _ => laidMetH Tryd.prog Rows.journalAgainRow.laid w) false (World.laidAll Tryd.prog os Rows.journalAgainRow.laid) #[.slice none 0 0, .slice none 0 0] 8 (World.laidAll_os _ _ _)
      (World.shaped_of_ZipB (by kernel_rfl) (by kernel_rfl)) (by kernel_rfl) (by kernel_rfl) (by kernel_rfl)
      (by rw [MakeChecks.laidMetH_plain _ _ _ (by kernel_rfl)]; exact laidMet_laidAll _ (by kernel_rfl) (by kernel_rfl))) ?_
  intro W base args ds gs before hval0 hW _ _ _hL _
  have hval : ∀ (j : Nat) t v, Tryd.f9.params[j]? = some t → args[j]? = some v → Value.okWide Tryd.prog W .any base t v := hval0
  have hW' := hW
  obtain ⟨p, q, hA0, hV, rfl, hfz, hnd⟩ := hW
  have hA : DataW.TrodAll enc Tryd.prog W 0 (fun _ => true) true Tryd.f9.params.toList args.toList ds p := hA0
  rw [Tryd.params9] at hA hval
  obtain ⟨v0, vs0, d0, ds0, p0, q0, hargs, rfl, rfl, h0, r0⟩ := trodAll_cons hA
  obtain ⟨v1, vs1, d1, ds1, p1, q1, rfl, rfl, rfl, h1, r1⟩ := trodAll_cons r0
  obtain ⟨rfl, rfl, rfl⟩ := trodAll_nil r1
  obtain rfl : args = #[v0, v1] := by cases args; simp_all
  obtain ⟨rfl, rfl⟩ := trodVars_none hV
  have k0 := h0
  have lt0 : ∀ x ∈ p0, x.block < W.heap.size := by obtain ⟨m, hm⟩ := k0; exact DataW.trod_lt m _ _ _ hm
  have k1 := h1
  have lt1 : ∀ x ∈ p1, x.block < W.heap.size := by obtain ⟨m, hm⟩ := k1; exact DataW.trod_lt m _ _ _ hm
  obtain ⟨ad0, ln0, cp0, e0⟩ := okWide_slice Tryd.underlying24 (hval 0 24 v0 rfl rfl)
  obtain ⟨a0, w0⟩ : ∃ a, SlR kSt W a v0 := by
    obtain ⟨fuel, hf⟩ := h0
    obtain ⟨a, hx⟩ := kSts.opn hf
    obtain ⟨v, hv, hs⟩ := hx
    rw [e0] at hv ⊢
    simp [Value.cells] at hv
    subst hv
    exact ⟨a, hs⟩
  obtain ⟨ad1, ln1, cp1, e1⟩ := okWide_slice Tryd.underlying24 (hval 1 24 v1 rfl rfl)
  obtain ⟨a1, w1⟩ : ∃ a, SlR kSt W a v1 := by
    obtain ⟨fuel, hf⟩ := h1
    obtain ⟨a, hx⟩ := kSts.opn hf
    obtain ⟨v, hv, hs⟩ := hx
    rw [e1] at hv ⊢
    simp [Value.cells] at hv
    subst hv
    exact ⟨a, hs⟩
  clear hA0 hval0
  refine (walk W v0 a0 w0 v1 a1 w1).mono fun e W' ⟨he, bel⟩ => ?_
  subst he
  exact ⟨_, rfl, _, _, _, [], _, [], hW', trodAll_mk1 (shut_bool Tryd.underlying4 _), (trodAll_cons_mk (Below.trod laidOut (by kernel_rfl) (of_decide_eq_true (by kernel_rfl)) k0 bel lt0) (trodAll_cons_mk (Below.trod laidOut (by kernel_rfl) (of_decide_eq_true (by kernel_rfl)) k1 bel lt1) trodAll_mk0)), rfl, bel.frame _, fun h => by cases h⟩
theorem over : Rows.journalAgainRow.holds Tryd.pinned (OpenSpec.ofChange Rows.journalAgainSpec) :=
  OpenClaim.holds_of_wide 9 Tryd.f9 rfl rfl rfl rfl rfl rfl rfl ⟨rfl, rfl, rfl, rfl, rfl⟩ rfl rfl rfl rfl rfl (by kernel_rfl) Tryd.func9 (by kernel_rfl)
    (of_decide_eq_true (by kernel_rfl)) (by unfold Func.isWrapper; first | (rw [if_pos (by decide +kernel)]; kernel_rfl) | (rw [if_neg (by decide +kernel)]; exact ⟨rfl, rfl⟩))
    (fun os started H enc _ => lifted os started H enc)
theorem proved : Rows.JournalAgainCardSaid :=
  Claim7.holds_tied_plain_at .later [] [.data, .pinned] true (true, "6877f7e2fb9e4bf04a3fec629da088c07fb68b4a07f79f772c5242f81ffe7e52") true over (fun _ h => by cases h) (by kernel_rfl) (fun _ h => by cases h) journalAgain_row_tie rfl ⟨rfl, rfl⟩ (by kernel_rfl) rfl
    (fun f fn hf hfn => by
      obtain rfl : f = 9 := Option.some.inj ((show Tryd.prog.funcNamed Rows.journalAgainRow.func = some 9 by kernel_rfl).symm.trans hf) |>.symm
      obtain rfl : fn = Tryd.f9 := (Option.some.inj (Tryd.func9.symm.trans hfn)).symm
      exact ⟨by kernel_rfl, fun j t ht => by
        rw [Tryd.params9] at ht
        have hm : t ∈ [24] := by have h9 := Array.mem_of_getElem? ht; simp at h9 ⊢; omega
        have hall : ([24].all fun u => !Tryd.prog.wantsStandIn u) = true := by kernel_rfl
        exact (show Tryd.prog.wantsStandIn t = false by simpa using List.all_eq_true.1 hall t hm)⟩)
    (by kernel_rfl)
#print axioms proved
end Go.Proofs.YtnplcjcbojjecaaDoor.journalAgain
