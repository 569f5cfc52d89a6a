/- Without crashes a journal tells just what was appended since the last save, and that save; each number is given once. No condition; longer scripts than the statement's own limits ask the example alone. -/
import Derived.Test.YtnplcjcbojjecaaDoorRows
import Derived.Test.YtnplcjcbojjecaaDoorCards
import Derived.Test.YtnplcjcbojjecaaDoorTie
import Derived.Test.YtnplcjcbojjecaaDoorJoWalk
import Derived.Test.YtnplcjcbojjecaaDoorJoSteps
import Derived.ProofKit
import Derived.OpenShut
import Derived.ShutString
import Derived.Lay
import Derived.PinnedBridge
import Derived.SevenTiedAt
set_option linter.unusedSimpArgs false
set_option linter.unusedVariables false
namespace Go.Proofs.YtnplcjcbojjecaaDoor.journalTells
open Go.ChangeShapes Go.WideShapes Go.ChangeAt Go.RowKit
open Go.ChangeMaps (open_string shut_string)
def eBase : ByteArray := ⟨#[98, 97, 115, 101]⟩
theorem j300 {m : DM} (h : m.S.length = 300) : jsize m = 149 := by unfold jsize; rw [h]; rfl
/-- What holds at the head of the loop in which what is wanted is gathered. -/
structure At3 (w : World) (b mb : Nat) (m : DM) (j : JM) (num jb : Nat) (v x : Value) (wr : World) : Prop where
  js : JS w b mb m j num jb v wr
  own : wr.ownsRow w.heap.size 9 1 x j.recs.length (j.recs.map Value.string)
  sep : ∀ k, x.ownBlock = some k → ¬ owned b mb jb v k
  len : m.S.length = 300
theorem At3.below {w wr wr' : World} {b mb num jb : Nat} {m : DM} {j : JM} {v x : Value} (h : At3 w b mb m j num jb v x wr) (hb : Below wr.heap.size wr wr') : At3 w b mb m j num jb v x wr' :=
  ⟨h.js.below hb, owns_below h.own hb (Nat.le_refl _), h.sep, h.len⟩
set_option maxRecDepth 100000 in
set_option maxHeartbeats 8000000 in
theorem walk (w : World) (vl : Value) (l : List StepJ) (hl0 : SlR kStepJ w l vl) :
    Calls Tryd.prog 11 #[vl] w fun e w' => e = .returned (.bool true) ∧ Below w.heap.size w w' := by
  obtain ⟨ad, cap, rfl, hlc, hcm, hst⟩ := steps_in hl0
  have HST := Lib.hid hst
  obtain ⟨n, hn⟩ : ∃ n, n = l.length := ⟨_, rfl⟩
  rw [← hn] at hlc ⊢
  have HN := Lib.hid hn
  unfold maxLen at hcm
  clear hl0 hst hn
  go_enter Tryd.func11, Tryd.ntmps11
  go_wp2_with fail
  refine (new_any 300 (by decide) (by decide) _).mono ?_
  rintro e w1 ⟨b, mb, rfl, hd1, hb1, hlb, hlmb⟩
  have HD1 := Lib.hid hd1
  have HB1 := Lib.hid hb1
  clear hd1 hb1
  go_wp2_with fail
  have hl0 : (dNew 300).S.length = 300 := by simp [dNew]
  refine (js_format (w := w) HD1.out rfl rfl (dNew_whole 300) (by rw [dNew_top]; omega) (by rw [j300 hl0]; decide) eBase (by decide) (by rw [j300 hl0]; decide) hlb hlmb HB1.out).mono ?_
  rintro e w2 ⟨m2, jb, rfl, hj2, hl2, _, _, _, _⟩
  have HB := Lib.hid hj2.bel
  have HJ2 := Lib.hid hj2
  have HL2 := Lib.hid (hl2.trans hl0)
  have HST2 := Lib.hid (HST.out.below hj2.bel)
  clear hj2 hl2 hl0
  go_wp2_with fail
  rw [HN.out]
  refine (fair12_any _ ad cap l HST2.out (by have := HN.out; unfold maxLen; omega)).mono ?_
  rintro e w3 hf
  obtain ⟨bf, rfl, hf2, hw3⟩ := hf
  have hw3 := hw3.symm
  subst hw3
  rw [← HN.out]
  cases bf
  · clear hf2
    go_wp2_with fail
    refine (wakes12_any _).mono ?_
    rintro e w9 ⟨rfl, hb9⟩
    have HB9 := Lib.hid (HB.out.trans (hb9.mono HB.out.size))
    clear hb9
    go_wp2_with fail
    go_ret
    exact ⟨rfl, HB9.out⟩
  · obtain ⟨h60, hsz⟩ := hf2 rfl
    have HSZ := Lib.hid hsz
    have hn60 : n ≤ 60 := by rw [HN.out]; exact h60
    clear hf2 hsz h60
    go_wp2_with fail
    obtain ⟨w4, hw4⟩ : ∃ w4, w4 = w2.alloc (.cells #[] 9) := ⟨_, rfl⟩
    have hb4 : Below w2.heap.size w2 w4 := by rw [hw4]; exact (Below.refl _ w2).alloc (Nat.le_refl _) _
    have hown4 : w4.ownsRow w.heap.size 9 1 (.slice (some ⟨w2.heap.size, 0, none⟩) 0 0) 0 (([] : List ByteArray).map Value.string) := by
      rw [hw4]
      exact ⟨rfl, .inr ⟨w2.heap.size, 0, #[], rfl, HJ2.out.bel.size, (Blk.new w2 #[] 9).out, by simp, by simp, rfl, rfl⟩⟩
    have hsep4 : ∀ k, (Value.slice (some ⟨w2.heap.size, 0, none⟩) 0 0).ownBlock = some k → ¬ owned b mb jb (.slice none 0 0) k := fun k hk ho => by
      have := HJ2.out.old k ho
      have hk : w2.heap.size = k := by simpa [Value.ownBlock] using hk
      omega
    have HA4 := Lib.hid (show At3 w b mb m2 _ _ jb _ (.slice (some ⟨w2.heap.size, 0, none⟩) 0 0) w4 from ⟨HJ2.out.below hb4, hown4, hsep4, HL2.out⟩)
    clear hb4 hown4 hsep4
    rw [← hw4]
    go_loopw [7, 8, 9] (fun x7 x8 x9 wr => ∃ (i : Nat) (m : DM) (j : JM) (num : Nat) (v X : Value), i ≤ n ∧ x9 = .int .i64 i ∧ x7 = .string j.base ∧ X = x8 ∧ At3 w b mb m j num jb v X wr ∧ j.next ≤ 2 + i) (fun _ _ y _ => n - (intOf y).toNat)
    case atStart => exact ⟨0, _, _, _, _, _, Nat.zero_le _, rfl, rfl, rfl, HA4.out, by rw [dNew_top]; exact Nat.le_refl _⟩
    case round =>
      obtain ⟨i, m, j, num, v, x8, hi, rfl, rfl, rfl, hA, hnx⟩ := hrel
      have HA := Lib.hid hA
      have HB := Lib.hid hA.js.bel
      clear hA hw4
      by_cases hlt : i < n
      · have g3 : (i : Int) < (n : Int) := by omega
        obtain ⟨x, hx⟩ : ∃ x, l[i]? = some x := ⟨l[i]'(by have := HN.out; omega), List.getElem?_eq_getElem _⟩
        obtain ⟨be, oe, rfl, hbe, d0, _, _, d3, _⟩ := HST.out i x hx
        obtain ⟨kd, f1, f2, s, u⟩ := x
        dsimp only at d0 d3
        have c0 : wr.cell? ⟨be, oe + i * 4, none⟩ = some (.int .i64 kd) := (HB.out.cell (p := ⟨be, oe + i * 4, none⟩) hbe).trans d0
        have c3 : wr.cell? ⟨be, oe + i * 4 + 3, none⟩ = some (.string s) := (HB.out.cell (p := ⟨be, oe + i * 4 + 3, none⟩) hbe).trans d3
        have D3 := Lib.hid d3
        clear hx d0 d3
        go_wp2_with fail
        refine (jnext_any jb b v j _ HA.out.js.jo).mono ?_
        rintro e w5 ⟨rfl, hw5⟩
        have hw5 := hw5.symm
        subst hw5
        by_cases hk1 : kd = 1
        · go_wp2_with fail
          refine (js_save HA.out.js s (by omega)).mono ?_
          rintro e w6 ⟨er, m', j', num', v', rfl, hjs, hl, _, ho, hown, hcase⟩
          have hlt8 := own_lt HA.out.own
          have hown6 := owns_only HA.out.own ho HA.out.sep
          have hsep6 : ∀ k, x8.ownBlock = some k → ¬ owned b mb jb v' k := fun k hk h => by
            rcases hown k h with e | e
            · exact HA.out.sep k hk e
            · have := hlt8 k hk; omega
          have HL := Lib.hid (hl.trans HA.out.len)
          have HSEP6 := Lib.hid hsep6
          have HOWN6 := Lib.hid hown6
          have HJS := Lib.hid hjs
          have e3 : w6.cell? ⟨be, oe + i * 4 + 3, none⟩ = some (.string s) := (hjs.bel.cell (p := ⟨be, oe + i * 4 + 3, none⟩) hbe).trans D3.out
          clear ho hown hsep6 hown6 hjs hl hlt8 c0 c3
          rcases hcase with ⟨rfl, hj', _⟩ | ⟨rfl, hj', _⟩ | ⟨rfl, hj', _⟩
          · have HN9 := Lib.hid (show j'.next ≤ 2 + (i + 1) from by rw [hj']; show j.next + 1 ≤ _; omega)
            have HBS : Hid (j'.base = s) := Lib.hid (by rw [hj']; rfl)
            have HNX : Hid ((j'.next : Int) = (j.next : Int) + 1) := Lib.hid (by rw [hj']; show ((j.next + 1 : Nat) : Int) = _; omega)
            have hne1 : ((j.next : Int) + 1 != (j.next : Int)) = true := by simp; omega
            have hne2 : ¬ (j.next : Int) + 1 = (j.next : Int) := by omega
            have HI := Lib.hid (show At3 w b mb m' j' num' jb v' (.slice none 0 0) w6 from ⟨HJS.out, by rw [hj']; exact ⟨rfl, .inl ⟨rfl, rfl⟩⟩, (fun k hk => by cases hk), HL.out⟩)
            clear hj'
            go_wp2_with fail
            refine (jnext_any jb b v' j' _ HI.out.js.jo).mono ?_
            rintro e w10 ⟨rfl, hw10⟩
            have hw10 := hw10.symm
            subst hw10
            rw [HNX.out]
            go_wp2_with fail
            refine (jnext_any jb b v' j' _ HI.out.js.jo).mono ?_
            rintro e w10 ⟨rfl, hw10⟩
            have hw10 := hw10.symm
            subst hw10
            rw [HNX.out]
            go_wp2_with fail
            refine (jbase_any jb b v' j' _ HI.out.js.jo).mono ?_
            rintro e w10 ⟨rfl, hw10⟩
            have hw10 := hw10.symm
            subst hw10
            try rw [HBS.out]
            go_wp2_with fail
            refine (jrecords_any jb b v' j' _ HI.out.js.jo).mono ?_
            rintro e w11 ⟨v11, rfl, hs11, _, hb11⟩
            have HI11 := Lib.hid (HI.out.below hb11)
            have HS11 := Lib.hid hs11
            clear hb11 hs11
            go_wp2_with fail
            refine (texts_any _ _ j'.recs j'.recs _ HS11.out (StrsAt.own HI11.out.own rfl (by have := HI11.out.js.jo.wf.recs; omega))).mono ?_
            rintro e w12 ⟨rfl, hb12⟩
            have HI12 := Lib.hid (HI11.out.below hb12)
            clear hb12
            generalize hq9 : decide (j'.recs = j'.recs) = q9
            obtain rfl : q9 = true := by rw [← hq9]; exact decide_eq_true rfl
            clear hq9
            go_wp2_with fail
            refine (jleft_any jb b mb v' j' m' _ HI12.out.js.jo HI12.out.js.disk).mono ?_
            rintro e w13 ⟨rfl, hb13⟩
            have HI13 := Lib.hid (HI12.out.below hb13)
            clear hb13
            have hroom9 : ¬ (jsize m' : Int) - (j'.used : Int) < 0 := by have := HI13.out.js.on.on.room; omega
            go_wp2_with fail
            go_roundw
            case rel => exact ⟨i + 1, m', j', num', v', (.slice none 0 0), by omega, by go_num, by (first | rfl | rw [HBS.out]), rfl, HI13.out, HN9.out⟩
            case measure => simp [intOf]; omega
          · subst hj'
            have HI := Lib.hid (show At3 w b mb m' j' num' jb v' x8 w6 from ⟨HJS.out, HOWN6.out, HSEP6.out, HL.out⟩)
            have HN9 := Lib.hid (show j'.next ≤ 2 + (i + 1) from by omega)
            have HBS : Hid True := Lib.hid trivial
            go_wp2_with fail
            refine (jnext_any jb b v' j' _ HI.out.js.jo).mono ?_
            rintro e w10 ⟨rfl, hw10⟩
            have hw10 := hw10.symm
            subst hw10
            go_wp2_with fail
            refine (jbase_any jb b v' j' _ HI.out.js.jo).mono ?_
            rintro e w10 ⟨rfl, hw10⟩
            have hw10 := hw10.symm
            subst hw10
            try rw [HBS.out]
            go_wp2_with fail
            refine (jrecords_any jb b v' j' _ HI.out.js.jo).mono ?_
            rintro e w11 ⟨v11, rfl, hs11, _, hb11⟩
            have HI11 := Lib.hid (HI.out.below hb11)
            have HS11 := Lib.hid hs11
            clear hb11 hs11
            go_wp2_with fail
            refine (texts_any _ _ j'.recs j'.recs _ HS11.out (StrsAt.own HI11.out.own rfl (by have := HI11.out.js.jo.wf.recs; omega))).mono ?_
            rintro e w12 ⟨rfl, hb12⟩
            have HI12 := Lib.hid (HI11.out.below hb12)
            clear hb12
            generalize hq9 : decide (j'.recs = j'.recs) = q9
            obtain rfl : q9 = true := by rw [← hq9]; exact decide_eq_true rfl
            clear hq9
            go_wp2_with fail
            refine (jleft_any jb b mb v' j' m' _ HI12.out.js.jo HI12.out.js.disk).mono ?_
            rintro e w13 ⟨rfl, hb13⟩
            have HI13 := Lib.hid (HI12.out.below hb13)
            clear hb13
            have hroom9 : ¬ (jsize m' : Int) - (j'.used : Int) < 0 := by have := HI13.out.js.on.on.room; omega
            go_wp2_with fail
            go_roundw
            case rel => exact ⟨i + 1, m', j', num', v', x8, by omega, by go_num, by (first | rfl | rw [HBS.out]), rfl, HI13.out, HN9.out⟩
            case measure => simp [intOf]; omega
          · subst hj'
            have HI := Lib.hid (show At3 w b mb m' j' num' jb v' x8 w6 from ⟨HJS.out, HOWN6.out, HSEP6.out, HL.out⟩)
            have HN9 := Lib.hid (show j'.next ≤ 2 + (i + 1) from by omega)
            have HBS : Hid True := Lib.hid trivial
            go_wp2_with fail
            refine (jnext_any jb b v' j' _ HI.out.js.jo).mono ?_
            rintro e w10 ⟨rfl, hw10⟩
            have hw10 := hw10.symm
            subst hw10
            go_wp2_with fail
            refine (jbase_any jb b v' j' _ HI.out.js.jo).mono ?_
            rintro e w10 ⟨rfl, hw10⟩
            have hw10 := hw10.symm
            subst hw10
            try rw [HBS.out]
            go_wp2_with fail
            refine (jrecords_any jb b v' j' _ HI.out.js.jo).mono ?_
            rintro e w11 ⟨v11, rfl, hs11, _, hb11⟩
            have HI11 := Lib.hid (HI.out.below hb11)
            have HS11 := Lib.hid hs11
            clear hb11 hs11
            go_wp2_with fail
            refine (texts_any _ _ j'.recs j'.recs _ HS11.out (StrsAt.own HI11.out.own rfl (by have := HI11.out.js.jo.wf.recs; omega))).mono ?_
            rintro e w12 ⟨rfl, hb12⟩
            have HI12 := Lib.hid (HI11.out.below hb12)
            clear hb12
            generalize hq9 : decide (j'.recs = j'.recs) = q9
            obtain rfl : q9 = true := by rw [← hq9]; exact decide_eq_true rfl
            clear hq9
            go_wp2_with fail
            refine (jleft_any jb b mb v' j' m' _ HI12.out.js.jo HI12.out.js.disk).mono ?_
            rintro e w13 ⟨rfl, hb13⟩
            have HI13 := Lib.hid (HI12.out.below hb13)
            clear hb13
            have hroom9 : ¬ (jsize m' : Int) - (j'.used : Int) < 0 := by have := HI13.out.js.on.on.room; omega
            go_wp2_with fail
            go_roundw
            case rel => exact ⟨i + 1, m', j', num', v', x8, by omega, by go_num, by (first | rfl | rw [HBS.out]), rfl, HI13.out, HN9.out⟩
            case measure => simp [intOf]; omega
        · go_wp2_with fail
          refine (js_append HA.out.js s (by omega)).mono ?_
          rintro e w6 ⟨er, m', j', num', v', rfl, hjs, hl, _, ho, hown, hcase⟩
          have hlt8 := own_lt HA.out.own
          have hown6 := owns_only HA.out.own ho HA.out.sep
          have hsep6 : ∀ k, x8.ownBlock = some k → ¬ owned b mb jb v' k := fun k hk h => by
            rcases hown k h with e | e
            · exact HA.out.sep k hk e
            · have := hlt8 k hk; omega
          have HL := Lib.hid (hl.trans HA.out.len)
          have HSEP6 := Lib.hid hsep6
          have HOWN6 := Lib.hid hown6
          have HJS := Lib.hid hjs
          have e3 : w6.cell? ⟨be, oe + i * 4 + 3, none⟩ = some (.string s) := (hjs.bel.cell (p := ⟨be, oe + i * 4 + 3, none⟩) hbe).trans D3.out
          clear ho hown hsep6 hown6 hjs hl hlt8 c0 c3
          rcases hcase with ⟨rfl, hj', _⟩ | ⟨rfl, hj', _⟩ | ⟨rfl, hj', _⟩
          · have HN9 := Lib.hid (show j'.next ≤ 2 + (i + 1) from by rw [hj']; show j.next + 1 ≤ _; omega)
            have HBS : Hid (j'.base = j.base) := Lib.hid (by rw [hj']; rfl)
            have HNX : Hid ((j'.next : Int) = (j.next : Int) + 1) := Lib.hid (by rw [hj']; show ((j.next + 1 : Nat) : Int) = _; omega)
            have hr1 : j'.recs = j.recs ++ [s] := by rw [hj']; rfl
            have HR1 := Lib.hid hr1
            have hne1 : ((j.next : Int) + 1 != (j.next : Int)) = true := by simp; omega
            have hne2 : ¬ (j.next : Int) + 1 = (j.next : Int) := by omega
            have hln : j.recs.length ≤ 4096 := HA.out.js.on.on.nlt.2.2
            obtain ⟨w4, hw4⟩ : ∃ w4, w4 = w6.alloc (.cells #[.string s] 9) := ⟨_, rfl⟩
            have hb4 : Below w6.heap.size w6 w4 := by rw [hw4]; exact (Below.refl _ w6).alloc (Nat.le_refl _) _
            have c4 : w4.cell? ⟨w6.heap.size, 0, none⟩ = some (.string s) := by rw [hw4]; exact (Blk.new w6 #[.string s] 9).cell 0
            have hl4 : w6.heap.size < w4.heap.size := by rw [hw4]; exact (Blk.new w6 #[.string s] 9).lt
            have hsrc : Hid (0 < [s].length → ∃ b o, some (⟨w6.heap.size, 0, none⟩ : Addr) = some ⟨b, o, none⟩ ∧ b < w4.heap.size ∧ ∀ (j : Nat) y, [s][j]? = some y → w4.cell? ⟨b, o + j, none⟩ = some (.string y)) := Lib.hid (fun _ => ⟨_, 0, rfl, hl4, fun j y hj => by
              cases j with
              | zero => obtain rfl := Option.some.inj hj; exact c4
              | succ j => simp at hj⟩)
            have HJ4 := Lib.hid (HJS.out.below hb4)
            have HO4 := Lib.hid (owns_below HOWN6.out hb4 (Nat.le_refl _))
            have hz4 : w.heap.size ≤ w4.heap.size := HJ4.out.bel.size
            clear hb4 c4 hl4 hr1 hj'
            go_wp2_with (first | ((with_reducible refine at_appStrs w.heap.size x8 j.recs.length j.recs [s] (some ⟨w6.heap.size, 0, none⟩) 1 1 rfl (hw4 ▸ HO4.out) (hw4 ▸ hsrc.out) ?_ (hw4 ▸ hz4) ?_ ?_ ?_); omega; exact rfl; exact rfl; intro v5 w5 ho5 hg5 hv5) | fail)
            have hg5 : w4.grownBy w5 x8.ownBlock := by rw [hw4]; exact hg5
            have hv5 : v5.ownBlock = x8.ownBlock ∨ v5.ownBlock = some w4.heap.size := by rw [hw4]; exact hv5
            have hz34 : w6.heap.size ≤ w4.heap.size := by rw [hw4]; exact ((Below.refl _ w6).alloc (Nat.le_refl _) (.cells #[.string s] 9)).size
            have HI := Lib.hid (show At3 w b mb m' j' num' jb v' v5 w5 from ⟨HJ4.out.only (Only.of_grownBy (S := fun k => x8.ownBlock = some k) hg5 (fun k hk => hk)) (fun k ho hk => HSEP6.out k hk ho) (fun k hk h => by have := owns_block HOWN6.out k h; omega),
              by rw [HR1.out, List.length_append, List.length_singleton]; exact ho5, (fun k hk ho => by
                rcases hv5 with e | e
                · rw [hk] at e; exact HSEP6.out k e.symm ho
                · rw [hk] at e
                  have := HJS.out.old k ho
                  have := Option.some.inj e
                  omega), HL.out⟩)
            clear ho5 hg5 hv5 hz34 hw4
            refine (jnext_any jb b v' j' _ HI.out.js.jo).mono ?_
            rintro e w10 ⟨rfl, hw10⟩
            have hw10 := hw10.symm
            subst hw10
            rw [HNX.out]
            go_wp2_with fail
            refine (jnext_any jb b v' j' _ HI.out.js.jo).mono ?_
            rintro e w10 ⟨rfl, hw10⟩
            have hw10 := hw10.symm
            subst hw10
            rw [HNX.out]
            go_wp2_with fail
            refine (jbase_any jb b v' j' _ HI.out.js.jo).mono ?_
            rintro e w10 ⟨rfl, hw10⟩
            have hw10 := hw10.symm
            subst hw10
            try rw [HBS.out]
            go_wp2_with fail
            refine (jrecords_any jb b v' j' _ HI.out.js.jo).mono ?_
            rintro e w11 ⟨v11, rfl, hs11, _, hb11⟩
            have HI11 := Lib.hid (HI.out.below hb11)
            have HS11 := Lib.hid hs11
            clear hb11 hs11
            go_wp2_with fail
            refine (texts_any _ _ j'.recs j'.recs _ HS11.out (StrsAt.own HI11.out.own rfl (by have := HI11.out.js.jo.wf.recs; omega))).mono ?_
            rintro e w12 ⟨rfl, hb12⟩
            have HI12 := Lib.hid (HI11.out.below hb12)
            clear hb12
            generalize hq9 : decide (j'.recs = j'.recs) = q9
            obtain rfl : q9 = true := by rw [← hq9]; exact decide_eq_true rfl
            clear hq9
            go_wp2_with fail
            refine (jleft_any jb b mb v' j' m' _ HI12.out.js.jo HI12.out.js.disk).mono ?_
            rintro e w13 ⟨rfl, hb13⟩
            have HI13 := Lib.hid (HI12.out.below hb13)
            clear hb13
            have hroom9 : ¬ (jsize m' : Int) - (j'.used : Int) < 0 := by have := HI13.out.js.on.on.room; omega
            go_wp2_with fail
            go_roundw
            case rel => exact ⟨i + 1, m', j', num', v', v5, by omega, by go_num, by (first | rfl | rw [HBS.out]), rfl, HI13.out, HN9.out⟩
            case measure => simp [intOf]; omega
          · subst hj'
            have HI := Lib.hid (show At3 w b mb m' j' num' jb v' x8 w6 from ⟨HJS.out, HOWN6.out, HSEP6.out, HL.out⟩)
            have HN9 := Lib.hid (show j'.next ≤ 2 + (i + 1) from by omega)
            have HBS : Hid True := Lib.hid trivial
            go_wp2_with fail
            refine (jnext_any jb b v' j' _ HI.out.js.jo).mono ?_
            rintro e w10 ⟨rfl, hw10⟩
            have hw10 := hw10.symm
            subst hw10
            go_wp2_with fail
            refine (jbase_any jb b v' j' _ HI.out.js.jo).mono ?_
            rintro e w10 ⟨rfl, hw10⟩
            have hw10 := hw10.symm
            subst hw10
            try rw [HBS.out]
            go_wp2_with fail
            refine (jrecords_any jb b v' j' _ HI.out.js.jo).mono ?_
            rintro e w11 ⟨v11, rfl, hs11, _, hb11⟩
            have HI11 := Lib.hid (HI.out.below hb11)
            have HS11 := Lib.hid hs11
            clear hb11 hs11
            go_wp2_with fail
            refine (texts_any _ _ j'.recs j'.recs _ HS11.out (StrsAt.own HI11.out.own rfl (by have := HI11.out.js.jo.wf.recs; omega))).mono ?_
            rintro e w12 ⟨rfl, hb12⟩
            have HI12 := Lib.hid (HI11.out.below hb12)
            clear hb12
            generalize hq9 : decide (j'.recs = j'.recs) = q9
            obtain rfl : q9 = true := by rw [← hq9]; exact decide_eq_true rfl
            clear hq9
            go_wp2_with fail
            refine (jleft_any jb b mb v' j' m' _ HI12.out.js.jo HI12.out.js.disk).mono ?_
            rintro e w13 ⟨rfl, hb13⟩
            have HI13 := Lib.hid (HI12.out.below hb13)
            clear hb13
            have hroom9 : ¬ (jsize m' : Int) - (j'.used : Int) < 0 := by have := HI13.out.js.on.on.room; omega
            go_wp2_with fail
            go_roundw
            case rel => exact ⟨i + 1, m', j', num', v', x8, by omega, by go_num, by (first | rfl | rw [HBS.out]), rfl, HI13.out, HN9.out⟩
            case measure => simp [intOf]; omega
          · subst hj'
            have HI := Lib.hid (show At3 w b mb m' j' num' jb v' x8 w6 from ⟨HJS.out, HOWN6.out, HSEP6.out, HL.out⟩)
            have HN9 := Lib.hid (show j'.next ≤ 2 + (i + 1) from by omega)
            have HBS : Hid True := Lib.hid trivial
            go_wp2_with fail
            refine (jnext_any jb b v' j' _ HI.out.js.jo).mono ?_
            rintro e w10 ⟨rfl, hw10⟩
            have hw10 := hw10.symm
            subst hw10
            go_wp2_with fail
            refine (jbase_any jb b v' j' _ HI.out.js.jo).mono ?_
            rintro e w10 ⟨rfl, hw10⟩
            have hw10 := hw10.symm
            subst hw10
            try rw [HBS.out]
            go_wp2_with fail
            refine (jrecords_any jb b v' j' _ HI.out.js.jo).mono ?_
            rintro e w11 ⟨v11, rfl, hs11, _, hb11⟩
            have HI11 := Lib.hid (HI.out.below hb11)
            have HS11 := Lib.hid hs11
            clear hb11 hs11
            go_wp2_with fail
            refine (texts_any _ _ j'.recs j'.recs _ HS11.out (StrsAt.own HI11.out.own rfl (by have := HI11.out.js.jo.wf.recs; omega))).mono ?_
            rintro e w12 ⟨rfl, hb12⟩
            have HI12 := Lib.hid (HI11.out.below hb12)
            clear hb12
            generalize hq9 : decide (j'.recs = j'.recs) = q9
            obtain rfl : q9 = true := by rw [← hq9]; exact decide_eq_true rfl
            clear hq9
            go_wp2_with fail
            refine (jleft_any jb b mb v' j' m' _ HI12.out.js.jo HI12.out.js.disk).mono ?_
            rintro e w13 ⟨rfl, hb13⟩
            have HI13 := Lib.hid (HI12.out.below hb13)
            clear hb13
            have hroom9 : ¬ (jsize m' : Int) - (j'.used : Int) < 0 := by have := HI13.out.js.on.on.room; omega
            go_wp2_with fail
            go_roundw
            case rel => exact ⟨i + 1, m', j', num', v', x8, by omega, by go_num, by (first | rfl | rw [HBS.out]), rfl, HI13.out, HN9.out⟩
            case measure => simp [intOf]; omega
      · have g3 : ¬ (i : Int) < (n : Int) := by omega
        go_wp2_with fail
        refine (wakes12_any _).mono ?_
        rintro e w9 ⟨rfl, hb9⟩
        have HB9 := Lib.hid (HB.out.trans (hb9.mono HB.out.size))
        clear hb9
        go_wp2_with fail
        go_ret
        exact ⟨rfl, HB9.out⟩
theorem own : ownKnob Tryd.prog.godebug = none := by kernel_rfl
theorem laidOut : laidOutB Tryd.prog = true := by kernel_rfl
set_option maxRecDepth 100000 in
theorem lifted (os : Os) (started : os.Started) (H : Type) (enc : TypeId × Value → H) :
    ReturnsInHanded {} Tryd.checked os 11 .any (fun w args => (Rows.journalTellsSpec.pre enc Tryd.prog Tryd.f11 [] false w args ∧ laidMetH Tryd.prog Rows.journalTellsRow.laid w) ∧ sizedMet enc Tryd.prog Tryd.f11 (OpenSpec.ofChange Rows.journalTellsSpec) false w args) (Rows.journalTellsSpec.post enc Tryd.prog Tryd.f11 false true false false) := by
  refine returnsInHanded_of_change_and (C := Tryd.checked) (X := fun w _ => laidMetH Tryd.prog Rows.journalTellsRow.laid w) (fun _ _ _ hh h => h.of_heap hh) own started (by kernel_rfl) Tryd.func11
    (ChangeSpec.witness_shaped (enc := enc) (C := Tryd.checked) (os := os) (X := fun w _ => laidMetH Tryd.prog Rows.journalTellsRow.laid w) false (World.laidAll Tryd.prog os Rows.journalTellsRow.laid) #[.slice none 0 0] 8 (World.laidAll_os _ _ _)
      (World.shaped_of_ZipB (by kernel_rfl) (by kernel_rfl)) (by kernel_rfl) (by kernel_rfl) (by kernel_rfl)
      (by rw [MakeChecks.laidMetH_plain _ _ _ (by kernel_rfl)]; exact laidMet_laidAll _ (by kernel_rfl) (by kernel_rfl))) ?_
  intro W base args ds gs before hval0 hW _ _ _hL _
  have hval : ∀ (j : Nat) t v, Tryd.f11.params[j]? = some t → args[j]? = some v → Value.okWide Tryd.prog W .any base t v := hval0
  have hW' := hW
  obtain ⟨p, q, hA0, hV, rfl, hfz, hnd⟩ := hW
  have hA : DataW.TrodAll enc Tryd.prog W 0 (fun _ => true) true Tryd.f11.params.toList args.toList ds p := hA0
  rw [Tryd.params11] at hA hval
  obtain ⟨v0, vs0, d0, ds0, p0, q0, hargs, rfl, rfl, h0, r0⟩ := trodAll_cons hA
  obtain ⟨rfl, rfl, rfl⟩ := trodAll_nil r0
  obtain rfl : args = #[v0] := by cases args; simp_all
  obtain ⟨rfl, rfl⟩ := trodVars_none hV
  have k0 := h0
  have lt0 : ∀ x ∈ p0, x.block < W.heap.size := by obtain ⟨m, hm⟩ := k0; exact DataW.trod_lt m _ _ _ hm
  obtain ⟨ad0, ln0, cp0, e0⟩ := okWide_slice Tryd.underlying63 (hval 0 63 v0 rfl rfl)
  obtain ⟨a0, w0⟩ : ∃ a, SlR kStepJ W a v0 := by
    obtain ⟨fuel, hf⟩ := h0
    obtain ⟨a, hx⟩ := kStepsJ.opn hf
    obtain ⟨v, hv, hs⟩ := hx
    rw [e0] at hv ⊢
    simp [Value.cells] at hv
    subst hv
    exact ⟨a, hs⟩
  clear hA0 hval0
  refine (walk W v0 a0 w0).mono fun e W' ⟨he, bel⟩ => ?_
  subst he
  exact ⟨_, rfl, _, _, _, [], _, [], hW', trodAll_mk1 (shut_bool Tryd.underlying4 _), (trodAll_cons_mk (Below.trod laidOut (by kernel_rfl) (of_decide_eq_true (by kernel_rfl)) k0 bel lt0) trodAll_mk0), rfl, bel.frame _, fun h => by cases h⟩
theorem over : Rows.journalTellsRow.holds Tryd.pinned (OpenSpec.ofChange Rows.journalTellsSpec) :=
  OpenClaim.holds_of_wide 11 Tryd.f11 rfl rfl rfl rfl rfl rfl rfl ⟨rfl, rfl, rfl, rfl, rfl⟩ rfl rfl rfl rfl rfl (by kernel_rfl) Tryd.func11 (by kernel_rfl)
    (of_decide_eq_true (by kernel_rfl)) (by unfold Func.isWrapper; first | (rw [if_pos (by decide +kernel)]; kernel_rfl) | (rw [if_neg (by decide +kernel)]; exact ⟨rfl, rfl⟩))
    (fun os started H enc _ => lifted os started H enc)
theorem proved : Rows.JournalTellsCardSaid :=
  Claim7.holds_tied_plain_at .later [] [.data, .pinned] true (true, "6877f7e2fb9e4bf04a3fec629da088c07fb68b4a07f79f772c5242f81ffe7e52") true over (fun _ h => by cases h) (by kernel_rfl) (fun _ h => by cases h) journalTells_row_tie rfl ⟨rfl, rfl⟩ (by kernel_rfl) rfl
    (fun f fn hf hfn => by
      obtain rfl : f = 11 := Option.some.inj ((show Tryd.prog.funcNamed Rows.journalTellsRow.func = some 11 by kernel_rfl).symm.trans hf) |>.symm
      obtain rfl : fn = Tryd.f11 := (Option.some.inj (Tryd.func11.symm.trans hfn)).symm
      exact ⟨by kernel_rfl, fun j t ht => by
        rw [Tryd.params11] at ht
        have hm : t ∈ [63] := by have h9 := Array.mem_of_getElem? ht; simp at h9 ⊢; omega
        have hall : ([63].all fun u => !Tryd.prog.wantsStandIn u) = true := by kernel_rfl
        exact (show Tryd.prog.wantsStandIn t = false by simpa using List.all_eq_true.1 hall t hm)⟩)
    (by kernel_rfl)
#print axioms proved
end Go.Proofs.YtnplcjcbojjecaaDoor.journalTells
