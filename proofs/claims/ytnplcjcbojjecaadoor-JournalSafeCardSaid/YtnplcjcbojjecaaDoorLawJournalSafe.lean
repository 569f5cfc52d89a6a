/- Whatever write of an Append, or of a Save, fails, in whatever part: opened again there is what there was ahead of it, or what there would have been behind it; and so, whatever is appended then. No condition; longer lists or texts than the statement's own limits ask the example alone. -/
import Derived.Test.YtnplcjcbojjecaaDoorRows
import Derived.Test.YtnplcjcbojjecaaDoorCards
import Derived.Test.YtnplcjcbojjecaaDoorTie
import Derived.Test.YtnplcjcbojjecaaDoorJoTry
import Derived.Test.YtnplcjcbojjecaaDoorKStr
import Derived.Test.YtnplcjcbojjecaaDoorKeep
import Derived.ProofKit
import Derived.OpenShut
import Derived.ShutString
import Derived.Lay
import Derived.PinnedBridge
import Derived.SevenTiedAt
set_option linter.unusedSimpArgs false
set_option linter.unusedVariables false
namespace Go.Proofs.YtnplcjcbojjecaaDoor.journalSafe
open Go.ChangeShapes Go.WideShapes Go.ChangeAt Go.RowKit
open Go.ChangeMaps (open_string shut_string)
def kI3 : Kd Tryd.prog 3 Int := Kd.int Tryd.underlying3 (by kernel_rfl)
def kA3 : Kd Tryd.prog 41 (List Int) := Kd.arr Tryd.underlying41 kI3 3 (by kernel_rfl)
def inI (n : Int) : Prop := -9223372036854775808 ≤ n ∧ n ≤ 9223372036854775807
theorem i64_of {n : Int} (h : (Lit.int .i64 n).wf = true) : inI n := by
  simpa [inI, Lit.wf, IntKind.min, IntKind.max, IntKind.signed, IntKind.bits] using h
theorem kA3_cells {w : World} {l : List Int} {cs : Array Value} (h : kA3.R w l cs.toList) : ∃ a b c : Int, cs = #[.int .i64 a, .int .i64 b, .int .i64 c] ∧ inI a ∧ inI b ∧ inI c := by
  obtain ⟨hl, h3, h⟩ := h
  obtain ⟨cs⟩ := cs
  match l, h3 with
  | [a, b, c], _ =>
    match cs, hl with
    | [c0, c1, c2], _ =>
      have h0 := h 0 a rfl
      have h1 := h 1 b rfl
      have h2 := h 2 c rfl
      simp [kI3, Kd.int] at h0 h1 h2
      exact ⟨a, b, c, by rw [h0.1, h1.1, h2.1], i64_of h0.2, i64_of h1.2, i64_of h2.2⟩
def eBase : ByteArray := ⟨#[98, 97, 115, 101]⟩
def eMore : ByteArray := ⟨#[109, 111, 114, 101]⟩
theorem j200 {m : DM} (h : m.S.length = 200) : jsize m = 99 := by unfold jsize; rw [h]; rfl
/-- What holds at a loop's head: the journal, and what is known of it. -/
structure At4 (w : World) (b mb : Nat) (m : DM) (j : JM) (num jb : Nat) (v x : Value) (wr : World) : Prop where
  js : JS w b mb m j num jb v wr
  own : wr.ownsRow w.heap.size 9 1 x j.recs.length (j.recs.map Value.string)
  sep : ∀ k, x.ownBlock = some k → ¬ owned b mb jb v k
  len : m.S.length = 200
theorem At4.below {w wr wr' : World} {b mb num jb : Nat} {m : DM} {j : JM} {v x : Value} (h : At4 w b mb m j num jb v x wr) (hb : Below wr.heap.size wr wr') : At4 w b mb m j num jb v x wr' :=
  ⟨h.js.below hb, owns_below h.own hb (Nat.le_refl _), h.sep, h.len⟩
set_option maxRecDepth 100000 in
set_option maxHeartbeats 16000000 in
theorem walk (w_ : World) (vr : Value) (recs : List ByteArray) (hr : SlR kSt w_ recs vr) (last : ByteArray) (hlast : last.size ≤ maxLen) (cw : Array Value) (lw : List Int) (hw : kA3.R w_ lw cw.toList) :
    Calls Tryd.prog 12 #[vr, .string last, .agg cw] w_ fun e w' => e = .returned (.bool true) ∧ Below w_.heap.size w_ w' := by
  obtain ⟨hsr, hlr, _⟩ := strs_in hr
  obtain ⟨z0, z1, z2, rfl, hz0, hz1, hz2⟩ := kA3_cells hw
  obtain ⟨w, hw0⟩ : ∃ w, w = w_.alloc (.cells #[.int .i64 z0, .int .i64 z1, .int .i64 z2] 41) := ⟨_, rfl⟩
  have h0 : Below w_.heap.size w_ w := by rw [hw0]; exact (Below.refl _ _).alloc (Nat.le_refl _) _
  have hZ : Blk w w_.heap.size #[.int .i64 z0, .int .i64 z1, .int .i64 z2] 41 := by rw [hw0]; exact Blk.new _ _ _
  have hsr' := hsr.below h0
  obtain ⟨ar, cr, rfl, _, hcr⟩ := hsr'.out
  have H0 := Lib.hid h0
  have HZ := Lib.hid hZ
  have HCR := Lib.hid hcr
  have HZ0 := Lib.hid hz0
  have HZ1 := Lib.hid hz1
  have HZ2 := Lib.hid hz2
  unfold maxLen at hlr hlast
  obtain ⟨nr, hnr⟩ : ∃ n, n = recs.length := ⟨_, rfl⟩
  rw [← hnr] at hlr HCR ⊢
  have HNR := Lib.hid hnr
  clear hsr hsr' hcr hnr hr hw h0 hZ hz0 hz1 hz2
  go_enter Tryd.func12, Tryd.ntmps12
  go_wp2_with fail
  rw [← hw0]
  refine (new_any 200 (by decide) (by decide) _).mono ?_
  rintro e w1 ⟨b, mb, rfl, hd1, hb1, hlb, hlmb⟩
  have HD1 := Lib.hid hd1
  have HB1 := Lib.hid hb1
  clear hd1 hb1
  go_wp2_with fail
  have hl0 : (dNew 200).S.length = 200 := by simp [dNew]
  refine (js_format (w := w) HD1.out rfl rfl (dNew_whole 200) (by rw [dNew_top]; omega) (by rw [j200 hl0]; decide) eBase (by decide) (by rw [j200 hl0]; decide) hlb hlmb HB1.out).mono ?_
  rintro e w2 ⟨m2, jb, rfl, hj2, hl2, _, ht2, _, _⟩
  have HB := Lib.hid hj2.bel
  have HJ2 := Lib.hid hj2
  have HL2 := Lib.hid (hl2.trans hl0)
  have HT2 := Lib.hid ht2
  clear hj2 hl2 hl0 ht2
  by_cases h20 : 20 < nr
  · have g1 : (20 : Int) < (nr : Int) := by omega
    go_wp2_with fail
    refine (wakes12_any _).mono ?_
    rintro e w99 ⟨rfl, hb99⟩
    have HB99 := Lib.hid (H0.out.trans ((HB.out.trans (hb99.mono HB.out.size)).mono H0.out.size))
    clear hb99
    go_wp2_with fail
    go_ret
    exact ⟨rfl, HB99.out⟩
  · have g1 : ¬ (20 : Int) < (nr : Int) := by omega
    by_cases h3k : 3000 < last.size
    · have g2 : (3000 : Int) < (last.size : Int) := by omega
      go_wp2_with fail
      refine (wakes12_any _).mono ?_
      rintro e w99 ⟨rfl, hb99⟩
      have HB99 := Lib.hid (H0.out.trans ((HB.out.trans (hb99.mono HB.out.size)).mono H0.out.size))
      clear hb99
      go_wp2_with fail
      go_ret
      exact ⟨rfl, HB99.out⟩
    · have g2 : ¬ (3000 : Int) < (last.size : Int) := by omega
      go_wp2_with fail
      obtain ⟨w4, hw4⟩ : ∃ w4, w4 = w2.alloc (.cells #[] 9) := ⟨_, rfl⟩
      have hb4 : Below w2.heap.size w2 w4 := by rw [hw4]; exact (Below.refl _ w2).alloc (Nat.le_refl _) _
      have hown4 : w4.ownsRow w.heap.size 9 1 (.slice (some ⟨w2.heap.size, 0, none⟩) 0 0) 0 (([] : List ByteArray).map Value.string) := by
        rw [hw4]
        exact ⟨rfl, .inr ⟨w2.heap.size, 0, #[], rfl, HJ2.out.bel.size, (Blk.new w2 #[] 9).out, by simp, by simp, rfl, rfl⟩⟩
      have hsep4 : ∀ k, (Value.slice (some ⟨w2.heap.size, 0, none⟩) 0 0).ownBlock = some k → ¬ owned b mb jb (.slice none 0 0) k := fun k hk ho => by
        have := HJ2.out.old k ho
        have hk : w2.heap.size = k := by simpa [Value.ownBlock] using hk
        omega
      have HA4 := Lib.hid (show At4 w b mb m2 _ _ jb _ (.slice (some ⟨w2.heap.size, 0, none⟩) 0 0) w4 from ⟨HJ2.out.below hb4, hown4, hsep4, HL2.out⟩)
      clear hb4 hown4 hsep4
      rw [← hw4]
      clear hw4
      go_loopw [11, 12, 13] (fun x7 x8 x9 wr => ∃ (i : Nat) (m : DM) (j : JM) (num : Nat) (v X : Value), i ≤ nr ∧ x9 = .int .i64 i ∧ x7 = .string j.base ∧ X = x8 ∧ At4 w b mb m j num jb v X wr ∧ j.next ≤ 2 + i ∧ Tight m j num) (fun _ _ y _ => nr - (intOf y).toNat)
      case atStart => exact ⟨0, _, _, _, _, _, Nat.zero_le _, rfl, rfl, rfl, HA4.out, by rw [dNew_top]; exact Nat.le_refl _, HT2.out⟩
      case round =>
        obtain ⟨i, m, j, num, v, x8, hi, rfl, rfl, rfl, hA, hnx, htt⟩ := hrel
        have HA := Lib.hid hA
        have HB := Lib.hid hA.js.bel
        have HTT := Lib.hid htt
        clear hA htt
        by_cases hlt : i < nr
        · have g3 : (i : Int) < (nr : Int) := by omega
          obtain ⟨s, hx⟩ : ∃ x, recs[i]? = some x := ⟨recs[i]'(by have := HNR.out; omega), List.getElem?_eq_getElem _⟩
          obtain ⟨be, oe, rfl, hbe, hc⟩ := HCR.out (by omega)
          have c0 : wr.cell? ⟨be, oe + i, none⟩ = some (.string s) := (HB.out.cell (p := ⟨be, oe + i, none⟩) hbe).trans (hc i s hx)
          have D3 := Lib.hid (hc i s hx)
          clear hc hx
          by_cases hbig : 1000 < s.size
          · have g4 : (1000 : Int) < (s.size : Int) := by omega
            go_wp2_with fail
            refine (wakes12_any _).mono ?_
            rintro e w99 ⟨rfl, hb99⟩
            have HB99 := Lib.hid (H0.out.trans ((HB.out.trans (hb99.mono HB.out.size)).mono H0.out.size))
            clear hb99
            go_wp2_with fail
            go_ret
            exact ⟨rfl, HB99.out⟩
          · have g4 : ¬ (1000 : Int) < (s.size : Int) := by omega
            have hj99 : jsize m = 99 := j200 HA.out.len
            by_cases h7 : (i : Int) % 7 = 3
            · go_wp2_with fail
              refine (js_save HA.out.js s (by omega)).mono ?_
              rintro e w6 ⟨er, m', j', num', v', rfl, hjs, hl, hw, ho, hown, hcase⟩
              have hlt8 := own_lt HA.out.own
              have hown6 := owns_only HA.out.own ho HA.out.sep
              have hsep6 : ∀ k, x8.ownBlock = some k → ¬ owned b mb jb v' k := fun k hk h => by
                rcases hown k h with e | e
                · exact HA.out.sep k hk e
                · have := hlt8 k hk; omega
              have HL := Lib.hid (hl.trans HA.out.len)
              have HSEP6 := Lib.hid hsep6
              have HOWN6 := Lib.hid hown6
              have HJS := Lib.hid hjs
              have HTI := Lib.hid (hw.2 HTT.out)
              have e3 : w6.cell? ⟨be, oe + i, none⟩ = some (.string s) := (hjs.bel.cell (p := ⟨be, oe + i, none⟩) hbe).trans D3.out
              clear ho hown hsep6 hown6 hjs hl hlt8 c0 hw
              have hsz9 : sizeN s.size ≤ 5 := by unfold sizeN; omega
              rcases hcase with ⟨rfl, hj', _⟩ | ⟨_, _, _, _, hbad⟩ | ⟨_, _, _, hbad⟩
              · have HN9 := Lib.hid (show j'.next ≤ 2 + (i + 1) from by rw [hj']; show j.next + 1 ≤ _; omega)
                have HBS : Hid (j'.base = s) := Lib.hid (by rw [hj']; rfl)
                have HI := Lib.hid (show At4 w b mb m' j' num' jb v' (.slice none 0 0) w6 from ⟨HJS.out, by rw [hj']; exact ⟨rfl, .inl ⟨rfl, rfl⟩⟩, (fun k hk => by cases hk), HL.out⟩)
                clear hj'
                go_wp2_with fail
                go_roundw
                case rel => exact ⟨i + 1, m', j', num', v', .slice none 0 0, by omega, by go_num, by rw [HBS.out], rfl, HI.out, HN9.out, HTI.out⟩
                case measure => simp [intOf]; omega
              · omega
              · omega
            · go_wp2_with fail
              refine (js_append HA.out.js s (by omega)).mono ?_
              rintro e w6 ⟨er, m', j', num', v', rfl, hjs, hl, hw, ho, hown, hcase⟩
              have hlt8 := own_lt HA.out.own
              have hown6 := owns_only HA.out.own ho HA.out.sep
              have hsep6 : ∀ k, x8.ownBlock = some k → ¬ owned b mb jb v' k := fun k hk h => by
                rcases hown k h with e | e
                · exact HA.out.sep k hk e
                · have := hlt8 k hk; omega
              have HL := Lib.hid (hl.trans HA.out.len)
              have HSEP6 := Lib.hid hsep6
              have HOWN6 := Lib.hid hown6
              have HJS := Lib.hid hjs
              have HTI := Lib.hid (hw.2 HTT.out)
              have e3 : w6.cell? ⟨be, oe + i, none⟩ = some (.string s) := (hjs.bel.cell (p := ⟨be, oe + i, none⟩) hbe).trans D3.out
              clear ho hown hsep6 hown6 hjs hl hlt8 c0 hw
              rcases hcase with ⟨rfl, hj', _⟩ | ⟨rfl, hj', _⟩ | ⟨_, _, _, hbad⟩
              · have HN9 := Lib.hid (show j'.next ≤ 2 + (i + 1) from by rw [hj']; show j.next + 1 ≤ _; omega)
                have HBS : Hid (j'.base = j.base) := Lib.hid (by rw [hj']; rfl)
                have hr1 : j'.recs = j.recs ++ [s] := by rw [hj']; rfl
                have HR1 := Lib.hid hr1
                have hln : j.recs.length ≤ 4096 := HA.out.js.on.on.nlt.2.2
                obtain ⟨w4, hw4⟩ : ∃ w4, w4 = w6.alloc (.cells #[.string s] 9) := ⟨_, rfl⟩
                have hb4 : Below w6.heap.size w6 w4 := by rw [hw4]; exact (Below.refl _ w6).alloc (Nat.le_refl _) _
                have c4 : w4.cell? ⟨w6.heap.size, 0, none⟩ = some (.string s) := by rw [hw4]; exact (Blk.new w6 #[.string s] 9).cell 0
                have hl4 : w6.heap.size < w4.heap.size := by rw [hw4]; exact (Blk.new w6 #[.string s] 9).lt
                have hsrc : Hid (0 < [s].length → ∃ b o, some (⟨w6.heap.size, 0, none⟩ : Addr) = some ⟨b, o, none⟩ ∧ b < w4.heap.size ∧ ∀ (j : Nat) y, [s][j]? = some y → w4.cell? ⟨b, o + j, none⟩ = some (.string y)) := Lib.hid (fun _ => ⟨_, 0, rfl, hl4, fun j y hj => by
                  cases j with
                  | zero => obtain rfl := Option.some.inj hj; exact c4
                  | succ j => simp at hj⟩)
                have HJ4 := Lib.hid (HJS.out.below hb4)
                have HO4 := Lib.hid (owns_below HOWN6.out hb4 (Nat.le_refl _))
                have hz4 : w.heap.size ≤ w4.heap.size := HJ4.out.bel.size
                clear hb4 c4 hl4 hr1 hj'
                go_wp2_with (first | ((with_reducible refine at_appStrs w.heap.size x8 j.recs.length j.recs [s] (some ⟨w6.heap.size, 0, none⟩) 1 1 rfl (hw4 ▸ HO4.out) (hw4 ▸ hsrc.out) ?_ (hw4 ▸ hz4) ?_ ?_ ?_); omega; exact rfl; exact rfl; intro v5 w5 ho5 hg5 hv5) | fail)
                have hg5 : w4.grownBy w5 x8.ownBlock := by rw [hw4]; exact hg5
                have hv5 : v5.ownBlock = x8.ownBlock ∨ v5.ownBlock = some w4.heap.size := by rw [hw4]; exact hv5
                have hz34 : w6.heap.size ≤ w4.heap.size := by rw [hw4]; exact ((Below.refl _ w6).alloc (Nat.le_refl _) (.cells #[.string s] 9)).size
                have HI := Lib.hid (show At4 w b mb m' j' num' jb v' v5 w5 from ⟨HJ4.out.only (Only.of_grownBy (S := fun k => x8.ownBlock = some k) hg5 (fun k hk => hk)) (fun k ho hk => HSEP6.out k hk ho) (fun k hk h => by have := owns_block HOWN6.out k h; omega),
                  by rw [HR1.out, List.length_append, List.length_singleton]; exact ho5, (fun k hk ho => by
                    rcases hv5 with e | e
                    · rw [hk] at e; exact HSEP6.out k e.symm ho
                    · rw [hk] at e
                      have := HJS.out.old k ho
                      have := Option.some.inj e
                      omega), HL.out⟩)
                clear ho5 hg5 hv5 hz34 hw4
                go_roundw
                case rel => exact ⟨i + 1, m', j', num', v', v5, by omega, by go_num, by rw [HBS.out], rfl, HI.out, HN9.out, HTI.out⟩
                case measure => simp [intOf]; omega
              · have HB := Lib.hid HJS.out.bel
                go_wp2_with fail
                refine (wakes12_any _).mono ?_
                rintro e w99 ⟨rfl, hb99⟩
                have HB99 := Lib.hid (H0.out.trans ((HB.out.trans (hb99.mono HB.out.size)).mono H0.out.size))
                clear hb99
                go_wp2_with fail
                go_ret
                exact ⟨rfl, HB99.out⟩
              · omega
        · have g3 : ¬ (i : Int) < (nr : Int) := by omega
          go_wp2_with fail
          obtain ⟨fl0, hfl0⟩ : ∃ fl : Bool, z2 % 2 = if fl then 1 else 0 := by
            by_cases h : z2 % 2 = 1
            · exact ⟨true, h⟩
            · exact ⟨false, by simp; omega⟩
          have HFL0 := Lib.hid hfl0
          clear hfl0
          go_loopw [9, 11, 12, 15] (fun x9 x11 x12 x15 wr => ∃ (r : Nat) (m : DM) (j : JM) (num jb : Nat) (v X : Value), r ≤ 2 ∧ x15 = .int .i64 r ∧ x9 = .pointer (some ⟨jb, 0, none⟩) ∧ x11 = .string j.base ∧ X = x12 ∧ At4 w b mb m j num jb v X wr ∧ j.next ≤ 100 + r ∧
            (r = 0 → Tight m j num) ∧ (r = 1 → Need (!fl0) m j num)) (fun _ _ _ y _ => 2 - (intOf y).toNat)
          case atStart => exact ⟨0, m, j, num, jb, v, x8, Nat.zero_le _, rfl, rfl, rfl, rfl, HA.out, by omega, fun _ => HTT.out, fun h => by omega⟩
          case round =>
            obtain ⟨r, m, j, num, jb, v, x8, hr2, rfl, rfl, rfl, rfl, hA, hnx, ht0, ht1⟩ := hrel
            obtain ⟨ad8, c8, hx8e, _, _⟩ := (StrsAt.own hA.own rfl (by have := hA.js.jo.wf.recs; omega)).out
            subst hx8e
            have hn8 : j.recs.length ≤ 4096 := hA.js.on.on.nlt.2.2
            have HA := Lib.hid hA
            have HB := Lib.hid hA.js.bel
            have HT0 := Lib.hid ht0
            have HT1 := Lib.hid ht1
            clear hA ht0 ht1
            by_cases hlt : r < 2
            · have g3 : (r : Int) < 2 := by omega
              have hZb := (HZ.out.below HB.out HZ.out.lt)
              have c0 : wr.cell? ⟨w_.heap.size, 0, none⟩ = some (.int .i64 z0) := hZb.cell 0
              have c1 : wr.cell? ⟨w_.heap.size, 1, none⟩ = some (.int .i64 z1) := hZb.cell 1
              have c2 : wr.cell? ⟨w_.heap.size, 2, none⟩ = some (.int .i64 z2) := hZb.cell 2
              clear hZb
              obtain ⟨q1, hq1⟩ : ∃ q, q = z0 % 20 * (1 - (r : Int)) := ⟨_, rfl⟩
              obtain ⟨q2, hq2⟩ : ∃ q, q = (r : Int) * (z0 % 3) := ⟨_, rfl⟩
              have hqb : 0 ≤ q1 ∧ q1 ≤ 19 ∧ 0 ≤ q2 ∧ q2 ≤ 2 := by
                rcases (by omega : r = 0 ∨ r = 1) with h | h
                · subst h
                  have e1 : q1 = z0 % 20 := by rw [hq1]; simp
                  have e2 : q2 = 0 := by rw [hq2]; simp
                  omega
                · subst h
                  have e1 : q1 = 0 := by rw [hq1]; simp
                  have e2 : q2 = z0 % 3 := by rw [hq2]; simp
                  omega
              obtain ⟨y1, hy1⟩ : ∃ y, y = IntKind.i64.wrap (z1 + 77 * (r : Int)) := ⟨_, rfl⟩
              have hy2 : inI y1 := by rw [hy1, IntKind.wrap_i64]; unfold inI; omega
              have e5 : IntKind.i64.wrap (1 - (r : Int)) = 1 - (r : Int) := by rw [IntKind.wrap_i64]; omega
              have e6 : IntKind.i64.wrap (z0 % 20 * (1 - (r : Int))) = q1 := by rw [← hq1, IntKind.wrap_i64]; omega
              have e11 : IntKind.i64.wrap ((r : Int) * (z0 % 3)) = q2 := by rw [← hq2, IntKind.wrap_i64]; omega
              have e12 : IntKind.i64.wrap (q1 + q2) = q1 + q2 := by rw [IntKind.wrap_i64]; omega
              have e16 : IntKind.i64.wrap (77 * (r : Int)) = 77 * (r : Int) := by rw [IntKind.wrap_i64]; omega
              have e17 : IntKind.i64.wrap (z1 + 77 * (r : Int)) = y1 := hy1.symm
              have harm : DM.arms (q1 + q2) (y1 % 257) = true := by unfold DM.arms; rw [decide_eq_true_iff]; omega
              have harm2 : m.arm (q1 + q2) (y1 % 257) = ({ m with armed := true, left := q1 + q2, part := (y1 % 257).toNat }, 0) := by unfold DM.arm; rw [if_pos harm]
              have HARM := Lib.hid harm2
              have hwf1 := DM.arm_wf HA.out.js.disk.wf (q1 + q2) (y1 % 257)
              rw [harm2] at hwf1
              obtain ⟨m1, hm1⟩ : ∃ m1 : DM, m1 = { m with armed := true, left := q1 + q2, part := (y1 % 257).toNat } := ⟨_, rfl⟩
              have hS1 : m1.S = m.S := by rw [hm1]
              have hd1 : m1.dead = false := by rw [hm1]; exact HA.out.js.md
              dsimp only at hwf1
              rw [← hm1] at HARM hwf1
              have HS1 := Lib.hid hS1
              have HD1 := Lib.hid hd1
              have HWF1 := Lib.hid hwf1
              have HY := Lib.hid hy2
              clear hq1 hq2 hy1 harm harm2 hm1 hS1 hd1 hwf1 hy2
              have hz0 := HZ0.out
              unfold inI at hz0
              go_wp2_with fail
              refine wp_region_held_drew (S := fun w' => w'.cell? ⟨w_.heap.size, 0, none⟩ = some (.int .i64 z0) ∧ w'.cell? ⟨w_.heap.size, 1, none⟩ = some (.int .i64 z1)) (by kernel_rfl) ⟨c0, c1⟩ (fun hHeld => ?_)
              refine take_op 0 (some 121) (v := ?_) rfl rfl (by kernel_rfl) (by kernel_rfl) (by kernel_rfl) (fun _ _ _ h => h) (Or.inl ⟨by rfl, ?_⟩) (by assumption) ?_
              rotate_left
              · intro w_ hSw_; (try dsimp only at hSw_); go_simp; (try with_reducible rfl)
              try simp only [Act.put, List.setIfInBounds_toArray, List.set_cons_zero, List.set_cons_succ]
              refine take_op 1 (some 122) (v := ?_) rfl rfl (by kernel_rfl) (by kernel_rfl) (by kernel_rfl) (fun _ _ _ h => h) (Or.inl ⟨by rfl, ?_⟩) (by assumption) ?_
              rotate_left
              · intro w_ hSw_; (try dsimp only at hSw_); go_simp; (try with_reducible rfl)
              try simp only [Act.put, List.setIfInBounds_toArray, List.set_cons_zero, List.set_cons_succ]
              refine take_op 2 (some 123) (v := ?_) rfl rfl (by kernel_rfl) (by kernel_rfl) (by kernel_rfl) (fun _ _ _ h => h) (Or.inl ⟨by rfl, ?_⟩) (by assumption) ?_
              rotate_left
              · intro w_ hSw_; (try dsimp only at hSw_); go_simp; (try with_reducible rfl)
              try simp only [Act.put, List.setIfInBounds_toArray, List.set_cons_zero, List.set_cons_succ]
              refine take_op 4 (some 125) (v := ?_) rfl rfl (by kernel_rfl) (by kernel_rfl) (by kernel_rfl) (fun _ _ _ h => h) (Or.inl ⟨by rfl, ?_⟩) (by assumption) ?_
              rotate_left
              · intro w_ hSw_; (try dsimp only at hSw_); go_simp; (try with_reducible rfl)
              try simp only [Act.put, List.setIfInBounds_toArray, List.set_cons_zero, List.set_cons_succ]
              refine take_op 5 (some 126) (v := ?_) rfl rfl (by kernel_rfl) (by kernel_rfl) (by kernel_rfl) (fun _ _ _ h => h) (Or.inl ⟨by rfl, ?_⟩) (by assumption) ?_
              rotate_left
              · intro w_ hSw_; (try dsimp only at hSw_); go_simp; (try with_reducible rfl)
              try simp only [Act.put, List.setIfInBounds_toArray, List.set_cons_zero, List.set_cons_succ]
              refine take_op 7 (some 128) (v := ?_) rfl rfl (by kernel_rfl) (by kernel_rfl) (by kernel_rfl) (fun _ _ _ h => h) (Or.inl ⟨by rfl, ?_⟩) (by assumption) ?_
              rotate_left
              · intro w_ hSw_; (try dsimp only at hSw_); go_simp; (try with_reducible rfl)
              try simp only [Act.put, List.setIfInBounds_toArray, List.set_cons_zero, List.set_cons_succ]
              refine take_op 8 (some 129) (v := ?_) rfl rfl (by kernel_rfl) (by kernel_rfl) (by kernel_rfl) (fun _ _ _ h => h) (Or.inl ⟨by rfl, ?_⟩) (by assumption) ?_
              rotate_left
              · intro w_ hSw_; (try dsimp only at hSw_); go_simp; (try with_reducible rfl)
              try simp only [Act.put, List.setIfInBounds_toArray, List.set_cons_zero, List.set_cons_succ]
              refine take_op 9 (some 130) (v := ?_) rfl rfl (by kernel_rfl) (by kernel_rfl) (by kernel_rfl) (fun _ _ _ h => h) (Or.inl ⟨by rfl, ?_⟩) (by assumption) ?_
              rotate_left
              · intro w_ hSw_; (try dsimp only at hSw_); go_simp; (try with_reducible rfl)
              try simp only [Act.put, List.setIfInBounds_toArray, List.set_cons_zero, List.set_cons_succ]
              refine take_op 13 (some 134) (v := ?_) rfl rfl (by kernel_rfl) (by kernel_rfl) (by kernel_rfl) (fun _ _ _ h => h) (Or.inl ⟨by rfl, ?_⟩) (by assumption) ?_
              rotate_left
              · intro w_ hSw_; (try dsimp only at hSw_); go_simp; (try with_reducible rfl)
              try simp only [Act.put, List.setIfInBounds_toArray, List.set_cons_zero, List.set_cons_succ]
              refine take_op 14 (some 135) (v := ?_) rfl rfl (by kernel_rfl) (by kernel_rfl) (by kernel_rfl) (fun _ _ _ h => h) (Or.inl ⟨by rfl, ?_⟩) (by assumption) ?_
              rotate_left
              · intro w_ hSw_; (try dsimp only at hSw_); go_simp; (try with_reducible rfl)
              try simp only [Act.put, List.setIfInBounds_toArray, List.set_cons_zero, List.set_cons_succ]
              refine take_op 15 (some 136) (v := ?_) rfl rfl (by kernel_rfl) (by kernel_rfl) (by kernel_rfl) (fun _ _ _ h => h) (Or.inl ⟨by rfl, ?_⟩) (by assumption) ?_
              rotate_left
              · intro w_ hSw_; (try dsimp only at hSw_); go_simp; (try with_reducible rfl)
              try simp only [Act.put, List.setIfInBounds_toArray, List.set_cons_zero, List.set_cons_succ]
              refine take_op 16 (some 137) (v := ?_) rfl rfl (by kernel_rfl) (by kernel_rfl) (by kernel_rfl) (fun _ _ _ h => h) (Or.inl ⟨by rfl, ?_⟩) (by assumption) ?_
              rotate_left
              · intro w_ hSw_; (try dsimp only at hSw_); go_simp; (try with_reducible rfl)
              try simp only [Act.put, List.setIfInBounds_toArray, List.set_cons_zero, List.set_cons_succ]
              refine take_op 17 (some 138) (v := ?_) rfl rfl (by kernel_rfl) (by kernel_rfl) (by kernel_rfl) (fun _ _ _ h => h) (Or.inl ⟨by rfl, ?_⟩) (by assumption) ?_
              rotate_left
              · intro w_ hSw_; (try dsimp only at hSw_); go_simp; (try with_reducible rfl)
              try simp only [Act.put, List.setIfInBounds_toArray, List.set_cons_zero, List.set_cons_succ]
              refine go_op 3 rfl (by kernel_rfl) (fun K_ hK_ => ?_)
              go_simp
              refine (keepMod_any z0 20 hz0 (by decide) (by decide) _).mono ?_
              rintro e w5 ⟨rfl, hw5⟩
              have hw5 := hw5.symm
              subst hw5
              simp only [Act.put, List.setIfInBounds_toArray, List.set_cons_zero, List.set_cons_succ]
              refine hK_.out _ _ hHeld (fun hHeld_ => ?_)
              refine take_op 6 (some 127) (v := ?_) rfl rfl (by kernel_rfl) (by kernel_rfl) (by kernel_rfl) (fun _ _ _ h => h) (Or.inl ⟨by rfl, ?_⟩) (by assumption) ?_
              rotate_left
              · intro w_ hSw_; (try dsimp only at hSw_); go_simp; (try with_reducible rfl)
              try simp only [Act.put, List.setIfInBounds_toArray, List.set_cons_zero, List.set_cons_succ]
              refine go_op 10 rfl (by kernel_rfl) (fun K_ hK_ => ?_)
              go_simp
              refine (keepMod_any z0 3 hz0 (by decide) (by decide) _).mono ?_
              rintro e w5 ⟨rfl, hw5⟩
              have hw5 := hw5.symm
              subst hw5
              simp only [Act.put, List.setIfInBounds_toArray, List.set_cons_zero, List.set_cons_succ]
              refine hK_.out _ _ hHeld (fun hHeld_ => ?_)
              refine take_op 11 (some 132) (v := ?_) rfl rfl (by kernel_rfl) (by kernel_rfl) (by kernel_rfl) (fun _ _ _ h => h) (Or.inl ⟨by rfl, ?_⟩) (by assumption) ?_
              rotate_left
              · intro w_ hSw_; (try dsimp only at hSw_); go_simp; (try with_reducible rfl)
              try simp only [Act.put, List.setIfInBounds_toArray, List.set_cons_zero, List.set_cons_succ]
              refine take_op 12 (some 133) (v := ?_) rfl rfl (by kernel_rfl) (by kernel_rfl) (by kernel_rfl) (fun _ _ _ h => h) (Or.inl ⟨by rfl, ?_⟩) (by assumption) ?_
              rotate_left
              · intro w_ hSw_; (try dsimp only at hSw_); go_simp; (try with_reducible rfl)
              try simp only [Act.put, List.setIfInBounds_toArray, List.set_cons_zero, List.set_cons_succ]
              refine go_op 18 rfl (by kernel_rfl) (fun K_ hK_ => ?_)
              go_simp
              refine (keepMod_any y1 257 HY.out (by decide) (by decide) _).mono ?_
              rintro e w5 ⟨rfl, hw5⟩
              have hw5 := hw5.symm
              subst hw5
              simp only [Act.put, List.setIfInBounds_toArray, List.set_cons_zero, List.set_cons_succ]
              refine hK_.out _ _ hHeld (fun hHeld_ => ?_)
              refine go_op 19 rfl (by kernel_rfl) (fun K_ hK_ => ?_)
              go_simp
              have hX := (HA.out.js.x).below ((Below.refl _ wr).drew)
              refine (arm_any b mb m (q1 + q2) (y1 % 257) _ hX.disk).mono ?_
              rintro e w5 ⟨rfl, hd5, ho5⟩
              rw [HARM.out] at hd5 ⊢
              dsimp only at hd5 ⊢
              have hx5 := hX.disk_turns hd5 ho5
              have hc5 := HZ.out.below hx5.bel HZ.out.lt
              have ho5' := (Only.refl (own2 b mb) wr).drew.trans ho5
              have hown5 := owns_only HA.out.own ho5' (fun k hk h => HA.out.sep k hk (.inl h))
              have HX5 := Lib.hid hx5
              have HOWN5 := Lib.hid hown5
              have HC5 := Lib.hid hc5
              clear hx5 hc5 ho5' hown5 hd5 ho5 hX
              try simp only [Act.put, List.setIfInBounds_toArray, List.set_cons_zero, List.set_cons_succ]
              refine hK_.out _ _ ⟨HC5.out.cell 0, HC5.out.cell 1⟩ (fun hHeld_ => ?_)
              refine take_op 20 (some 141) (v := ?_) rfl rfl (by kernel_rfl) (by kernel_rfl) (by kernel_rfl) (fun _ _ _ h => h) (Or.inl ⟨by rfl, ?_⟩) (by assumption) ?_
              rotate_left
              · intro w_ hSw_; (try dsimp only at hSw_); go_simp; (try with_reducible rfl)
              try simp only [Act.put, List.setIfInBounds_toArray, List.set_cons_zero, List.set_cons_succ]
              refine wpAnyH_done (by kernel_rfl) ?_ _
              have c2' : w5.cell? ⟨w_.heap.size, 2, none⟩ = some (.int .i64 z2) := HC5.out.cell 2
              obtain ⟨y2, hy2⟩ : ∃ y, y = IntKind.i64.wrap (z2 + (r : Int)) := ⟨_, rfl⟩
              obtain ⟨fl, hfl⟩ : ∃ fl : Bool, fl = if r = 0 then fl0 else !fl0 := ⟨_, rfl⟩
              have hy3 : inI y2 ∧ y2 % 2 = if fl then 1 else 0 := by
                have hz2 := HZ2.out
                have hf0 := HFL0.out
                unfold inI at hz2
                have hyr : inI y2 := by rw [hy2, IntKind.wrap_i64]; unfold inI; omega
                refine ⟨hyr, ?_⟩
                rcases (by omega : r = 0 ∨ r = 1) with h | h
                · subst h
                  rw [hfl, if_pos rfl, ← hf0, hy2, IntKind.wrap_i64]
                  omega
                · subst h
                  have hfl' : fl = !fl0 := by rw [hfl]; rfl
                  have hpar : y2 % 2 = (z2 + 1) % 2 := by rw [hy2, IntKind.wrap_i64]; omega
                  rw [hfl', hpar]
                  cases fl0
                  · have hf0 : z2 % 2 = 0 := hf0
                    show (z2 + 1) % 2 = 1
                    omega
                  · have hf0 : z2 % 2 = 1 := hf0
                    show (z2 + 1) % 2 = 0
                    omega
              have hneed : Need fl m1 j num := by
                refine Need.same ?_ HS1.out
                rcases (by omega : r = 0 ∨ r = 1) with h | h
                · exact (HT0.out h).need fl
                · have hfl' : fl = !fl0 := by rw [hfl, h]; rfl
                  rw [hfl']; exact HT1.out h
              have hlaw := try_law fl (HA.out.js.on.same HS1.out HWF1.out) HD1.out HA.out.js.jd (by omega) last (by omega) hneed
              have htight : r = 0 → Tight m1 j num := fun h => (HT0.out h).same HS1.out HWF1.out
              have hfl1 : r = 0 → fl = fl0 := fun h => by rw [hfl, if_pos h]
              obtain ⟨T, hT⟩ : ∃ T, T = tryF fl m1 j last := ⟨_, rfl⟩
              rw [← hT] at hlaw
              obtain ⟨jn, num', hln, hjd, hjn, hcase, htn, hlen, hwfT⟩ := hlaw
              have HLN := Lib.hid hln
              have HJD := Lib.hid hjd
              have HJN := Lib.hid hjn
              have HT := Lib.hid hT
              have HTN := Lib.hid (show r = 0 → Need (!fl0) T.1 jn num' from fun h => by have := htn (htight h); rw [hfl1 h] at this; exact this)
              have HLEN := Lib.hid (show T.1.S.length = 200 from by rw [hlen, HS1.out]; exact HA.out.len)
              have HWFT := Lib.hid hwfT
              have HY2 := Lib.hid hy3
              have e24 : Go.RowKit.wrap64 (z2 + (r : Int)) = y2 := by rw [hy2, IntKind.wrap_i64]; unfold Go.RowKit.wrap64; omega
              have HCASE := Lib.hid hcase
              clear hneed hln hjd hjn hT htn htight hfl1 hlen hwfT hy3 hfl hy2 hcase
              have hopA := append_any b mb jb m1 v j last _ HX5.out.disk HX5.out.jo (by have := HA.out.js.on.on.nlt; omega)
              have hopS := save_any b mb jb m1 v j last _ HX5.out.disk HX5.out.jo
              have HOPA := Lib.hid hopA
              have HOPS := Lib.hid hopS
              clear hopA hopS c2
              go_wp2_with fail
              refine (keepMod_any y2 2 HY2.out.1 (by decide) (by decide) _).mono ?_
              rintro e w6 ⟨rfl, hw6⟩
              have hw6 := hw6.symm
              subst hw6
              rw [HY2.out.2]
              cases fl
              · rw [if_neg (by decide)]
                go_wp2_with fail
                refine HOPA.out.mono ?_
                rintro e w6 hp
                unfold OpPost at hp
                rw [show appendF m1 j last = T from HT.out.symm] at hp
                obtain ⟨rfl, hd6, ho6, v6, hj6, hv6⟩ := hp
                have hx6 := HX5.out.op hd6 ho6 hj6 hv6
                have hown6 := owns_only HOWN5.out ho6 HA.out.sep
                have HX6 := Lib.hid hx6.1
                have HOWN6 := Lib.hid hown6
                clear hd6 ho6 hj6 hv6 hx6 hown6
                rcases HCASE.out with ⟨hjq, he⟩ | ⟨hjq, he⟩
                · have HBQ : Hid (jn.base = j.base) := Lib.hid (by rw [hjq])
                  have HRQ : Hid (jn.recs = j.recs) := Lib.hid (by rw [hjq])
                  clear hjq
                  rcases he with he | he
                  all_goals
                    as_aux_lemma =>
                      rw [he]
                      go_wp2_with fail
                      refine (start_any b mb T.1 _ HX6.out.disk).mono ?_
                      rintro e w7 ⟨rfl, hd7, ho7⟩
                      have hx7 := HX6.out.disk_turns hd7 ho7
                      have hown7 := owns_only HOWN6.out ho7 (fun k hk h => HA.out.sep k hk (.inl h))
                      have hln7 := HLN.out.same (m' := T.1.start) rfl hd7.wf
                      have HX7 := Lib.hid hx7
                      have HOWN7 := Lib.hid hown7
                      have HLN7 := Lib.hid hln7
                      clear hd7 ho7 hx7 hown7 hln7
                      go_wp2_with fail
                      refine (jopen_any b mb T.1.start _ HX7.out.disk).mono ?_
                      rintro e w8 hp8
                      have hje : ({ jn with dead := false } : JM) = jn := by have := HJD.out; cases jn; cases this; rfl
                      rw [HLN7.out.on.opens rfl, hje] at hp8
                      obtain ⟨hb8, jb8, v8, rfl, hj8, hlj8, hv8⟩ := hp8
                      have hx8 := HX7.out.below hb8
                      have HJ8 := Lib.hid (show JS w b mb T.1.start jn num' jb8 v8 w8 from ⟨HLN7.out, rfl, rfl, HJD.out, hx8.disk, hj8, HA.out.js.b0, HA.out.js.mb0, Nat.le_trans HX7.out.bel.size hlj8, (fun k hk => Nat.le_trans HX7.out.bel.size (hv8 k hk)), hx8.bel⟩)
                      have HOWN8 := Lib.hid (owns_below HOWN7.out hb8 (Nat.le_refl _))
                      have hnn8 : jn.recs.length ≤ 4097 := by have := HJ8.out.on.on.nlt; omega
                      clear hb8 hj8 hlj8 hv8 hx8 hje
                      go_wp2_with fail
                      refine (jbase_any jb8 b v8 jn _ HJ8.out.jo).mono ?_
                      rintro e w9 ⟨rfl, hw9⟩
                      have hw9 := hw9.symm
                      subst hw9
                      rw [HBQ.out]
                      go_wp2_with fail
                      refine (jrecords_any jb8 b v8 jn _ HJ8.out.jo).mono ?_
                      rintro e w9 ⟨v9, rfl, hs9, _, hb9⟩
                      have HJ9 := Lib.hid (HJ8.out.below hb9)
                      have HOWN9 := Lib.hid (owns_below HOWN8.out hb9 (Nat.le_refl _))
                      have HS9 := Lib.hid hs9
                      clear hb9 hs9
                      go_wp2_with fail
                      refine (texts_any _ _ jn.recs j.recs _ HS9.out (StrsAt.own HOWN9.out rfl (by omega))).mono ?_
                      rintro e w10 ⟨rfl, hb10⟩
                      have HJ10 := Lib.hid (HJ9.out.below hb10)
                      have HOWN10 := Lib.hid (owns_below HOWN9.out hb10 (Nat.le_refl _))
                      clear hb10
                      generalize hq9 : decide (jn.recs = j.recs) = q9
                      obtain rfl : q9 = true := by rw [← hq9]; exact decide_eq_true HRQ.out
                      clear hq9
                      obtain ⟨a10, cc10, hae, _, hsrc10⟩ := (StrsAt.own HOWN10.out rfl (by omega)).out
                      injection hae with hae1 _ hae2
                      subst hae1 hae2
                      have hz10 : w.heap.size ≤ w10.heap.size := HJ10.out.bel.size
                      have hzz : w.heap.size ≤ (w10.alloc (.cells #[] 9)).heap.size := Nat.le_trans hz10 (alloc_size _ _)
                      have HSRC10 := Lib.hid hsrc10
                      clear hsrc10
                      go_wp2_with (first | ((with_reducible refine at_appStrs w.heap.size (.slice (some ⟨w10.heap.size, 0, none⟩) 0 0) 0 [] j.recs ad8 j.recs.length c8 rfl (new_empty w10 hz10) (src_below HSRC10.out (alloc_below _ _)) ?_ hzz ?_ ?_ ?_); omega; exact rfl; exact rfl; intro v12 w12 ho12 hg12 hv12; have hz12 : w.heap.size ≤ w12.heap.size := Nat.le_trans hzz hg12.size) | ((with_reducible refine at_appStrs w.heap.size v12 (0 + j.recs.length) ([] ++ j.recs) [last] (some ⟨w12.heap.size, 0, none⟩) 1 1 rfl (owns_below ho12 (alloc_below _ _) (Nat.le_refl _)) (row_src w12 last) ?_ (Nat.le_trans hz12 (alloc_size _ _)) ?_ ?_ ?_); omega; exact rfl; exact rfl; intro v14 w14 ho14 hg14 hv14) | fail)
                      have hb14 : Below w10.heap.size w10 w14 := app2_below hg12 hv12 hg14
                      rw [Nat.zero_add, List.nil_append] at ho14
                      have HO14 : Hid (w14.ownsRow w.heap.size 9 1 v14 (j.recs ++ [last]).length ((j.recs ++ [last]).map Value.string)) := Lib.hid (by rw [List.length_append, List.length_singleton]; exact ho14)
                      have HJ14 := Lib.hid (HJ10.out.below hb14)
                      clear hb14 ho12 hg12 hv12 hz12 ho14 hg14 hv14 hz10 hzz
                      refine (jbase_any jb8 b v8 jn _ HJ14.out.jo).mono ?_
                      rintro e w15 ⟨rfl, hw15⟩
                      have hw15 := hw15.symm
                      subst hw15
                      rw [HBQ.out]
                      go_wp2_with fail
                      refine (jrecords_any jb8 b v8 jn _ HJ14.out.jo).mono ?_
                      rintro e w15 ⟨v15, rfl, hs15, _, hb15⟩
                      have HJ15 := Lib.hid (HJ14.out.below hb15)
                      have HO15 := Lib.hid (owns_below HO14.out hb15 (Nat.le_refl _))
                      have HS15 := Lib.hid hs15
                      clear hb15 hs15
                      go_wp2_with fail
                      refine (texts_any _ _ jn.recs (j.recs ++ [last]) _ HS15.out (StrsAt.own HO15.out rfl (by rw [List.length_append, List.length_singleton]; omega))).mono ?_
                      rintro e w16 ⟨rfl, hb16⟩
                      have HJ16 := Lib.hid (HJ15.out.below hb16)
                      clear hb16
                      generalize hq16 : decide (jn.recs = j.recs ++ [last]) = q16
                      obtain rfl : q16 = false := by rw [← hq16, HRQ.out]; exact decide_eq_false (fun h => by have := congrArg List.length h; simp at this)
                      clear hq16
                      go_wp2_with fail
                      refine (jbase_any jb8 b v8 jn _ HJ16.out.jo).mono ?_
                      rintro e w17 ⟨rfl, hw17⟩
                      have hw17 := hw17.symm
                      subst hw17
                      go_wp2_with fail
                      refine (jrecords_any jb8 b v8 jn _ HJ16.out.jo).mono ?_
                      rintro e w17 ⟨v17, rfl, _, ho17, hb17⟩
                      have hsp17 : ∀ k, v17.ownBlock = some k → ¬ owned b mb jb8 v8 k := fun k hk h => by
                        have h1 := HJ16.out.old k h
                        have h2 := owns_block ho17 k hk
                        omega
                      have HA17 := Lib.hid (show At4 w b mb T.1.start jn num' jb8 v8 v17 w17 from ⟨HJ16.out.below hb17, owns_rebase ho17 HJ16.out.bel.size, hsp17, HLEN.out⟩)
                      clear ho17 hb17 hsp17
                      go_wp2_with fail
                      go_roundw
                      case rel => exact ⟨r + 1, T.1.start, jn, num', jb8, v8, v17, by omega, by go_num, rfl, rfl, rfl, HA17.out, by have := HJN.out; omega, (fun h => by omega), fun h => (HTN.out (by omega)).same rfl⟩
                      case measure => simp [intOf]; omega
                · have HBQ : Hid (jn.base = j.base) := Lib.hid (by rw [hjq]; rfl)
                  have HRQ : Hid (jn.recs = j.recs ++ [last]) := Lib.hid (by rw [hjq]; rfl)
                  clear hjq
                  rcases he with he | he
                  all_goals
                    as_aux_lemma =>
                      rw [he]
                      go_wp2_with fail
                      refine (start_any b mb T.1 _ HX6.out.disk).mono ?_
                      rintro e w7 ⟨rfl, hd7, ho7⟩
                      have hx7 := HX6.out.disk_turns hd7 ho7
                      have hown7 := owns_only HOWN6.out ho7 (fun k hk h => HA.out.sep k hk (.inl h))
                      have hln7 := HLN.out.same (m' := T.1.start) rfl hd7.wf
                      have HX7 := Lib.hid hx7
                      have HOWN7 := Lib.hid hown7
                      have HLN7 := Lib.hid hln7
                      clear hd7 ho7 hx7 hown7 hln7
                      go_wp2_with fail
                      refine (jopen_any b mb T.1.start _ HX7.out.disk).mono ?_
                      rintro e w8 hp8
                      have hje : ({ jn with dead := false } : JM) = jn := by have := HJD.out; cases jn; cases this; rfl
                      rw [HLN7.out.on.opens rfl, hje] at hp8
                      obtain ⟨hb8, jb8, v8, rfl, hj8, hlj8, hv8⟩ := hp8
                      have hx8 := HX7.out.below hb8
                      have HJ8 := Lib.hid (show JS w b mb T.1.start jn num' jb8 v8 w8 from ⟨HLN7.out, rfl, rfl, HJD.out, hx8.disk, hj8, HA.out.js.b0, HA.out.js.mb0, Nat.le_trans HX7.out.bel.size hlj8, (fun k hk => Nat.le_trans HX7.out.bel.size (hv8 k hk)), hx8.bel⟩)
                      have HOWN8 := Lib.hid (owns_below HOWN7.out hb8 (Nat.le_refl _))
                      have hnn8 : jn.recs.length ≤ 4097 := by have := HJ8.out.on.on.nlt; omega
                      clear hb8 hj8 hlj8 hv8 hx8 hje
                      go_wp2_with fail
                      refine (jbase_any jb8 b v8 jn _ HJ8.out.jo).mono ?_
                      rintro e w9 ⟨rfl, hw9⟩
                      have hw9 := hw9.symm
                      subst hw9
                      rw [HBQ.out]
                      go_wp2_with fail
                      refine (jrecords_any jb8 b v8 jn _ HJ8.out.jo).mono ?_
                      rintro e w9 ⟨v9, rfl, hs9, _, hb9⟩
                      have HJ9 := Lib.hid (HJ8.out.below hb9)
                      have HOWN9 := Lib.hid (owns_below HOWN8.out hb9 (Nat.le_refl _))
                      have HS9 := Lib.hid hs9
                      clear hb9 hs9
                      go_wp2_with fail
                      refine (texts_any _ _ jn.recs j.recs _ HS9.out (StrsAt.own HOWN9.out rfl (by omega))).mono ?_
                      rintro e w10 ⟨rfl, hb10⟩
                      have HJ10 := Lib.hid (HJ9.out.below hb10)
                      have HOWN10 := Lib.hid (owns_below HOWN9.out hb10 (Nat.le_refl _))
                      clear hb10
                      generalize hq9 : decide (jn.recs = j.recs) = q9
                      obtain rfl : q9 = false := by rw [← hq9, HRQ.out]; exact decide_eq_false (fun h => by have := congrArg List.length h; simp at this)
                      clear hq9
                      obtain ⟨a10, cc10, hae, _, hsrc10⟩ := (StrsAt.own HOWN10.out rfl (by omega)).out
                      injection hae with hae1 _ hae2
                      subst hae1 hae2
                      have hz10 : w.heap.size ≤ w10.heap.size := HJ10.out.bel.size
                      have hzz : w.heap.size ≤ (w10.alloc (.cells #[] 9)).heap.size := Nat.le_trans hz10 (alloc_size _ _)
                      have HSRC10 := Lib.hid hsrc10
                      clear hsrc10
                      go_wp2_with (first | ((with_reducible refine at_appStrs w.heap.size (.slice (some ⟨w10.heap.size, 0, none⟩) 0 0) 0 [] j.recs ad8 j.recs.length c8 rfl (new_empty w10 hz10) (src_below HSRC10.out (alloc_below _ _)) ?_ hzz ?_ ?_ ?_); omega; exact rfl; exact rfl; intro v12 w12 ho12 hg12 hv12; have hz12 : w.heap.size ≤ w12.heap.size := Nat.le_trans hzz hg12.size) | ((with_reducible refine at_appStrs w.heap.size v12 (0 + j.recs.length) ([] ++ j.recs) [last] (some ⟨w12.heap.size, 0, none⟩) 1 1 rfl (owns_below ho12 (alloc_below _ _) (Nat.le_refl _)) (row_src w12 last) ?_ (Nat.le_trans hz12 (alloc_size _ _)) ?_ ?_ ?_); omega; exact rfl; exact rfl; intro v14 w14 ho14 hg14 hv14) | fail)
                      have hb14 : Below w10.heap.size w10 w14 := app2_below hg12 hv12 hg14
                      rw [Nat.zero_add, List.nil_append] at ho14
                      have HO14 : Hid (w14.ownsRow w.heap.size 9 1 v14 (j.recs ++ [last]).length ((j.recs ++ [last]).map Value.string)) := Lib.hid (by rw [List.length_append, List.length_singleton]; exact ho14)
                      have HJ14 := Lib.hid (HJ10.out.below hb14)
                      clear hb14 ho12 hg12 hv12 hz12 ho14 hg14 hv14 hz10 hzz
                      refine (jbase_any jb8 b v8 jn _ HJ14.out.jo).mono ?_
                      rintro e w15 ⟨rfl, hw15⟩
                      have hw15 := hw15.symm
                      subst hw15
                      rw [HBQ.out]
                      go_wp2_with fail
                      refine (jrecords_any jb8 b v8 jn _ HJ14.out.jo).mono ?_
                      rintro e w15 ⟨v15, rfl, hs15, _, hb15⟩
                      have HJ15 := Lib.hid (HJ14.out.below hb15)
                      have HO15 := Lib.hid (owns_below HO14.out hb15 (Nat.le_refl _))
                      have HS15 := Lib.hid hs15
                      clear hb15 hs15
                      go_wp2_with fail
                      refine (texts_any _ _ jn.recs (j.recs ++ [last]) _ HS15.out (StrsAt.own HO15.out rfl (by rw [List.length_append, List.length_singleton]; omega))).mono ?_
                      rintro e w16 ⟨rfl, hb16⟩
                      have HJ16 := Lib.hid (HJ15.out.below hb16)
                      clear hb16
                      generalize hq16 : decide (jn.recs = j.recs ++ [last]) = q16
                      obtain rfl : q16 = true := by rw [← hq16]; exact decide_eq_true HRQ.out
                      clear hq16
                      go_wp2_with fail
                      refine (jbase_any jb8 b v8 jn _ HJ16.out.jo).mono ?_
                      rintro e w17 ⟨rfl, hw17⟩
                      have hw17 := hw17.symm
                      subst hw17
                      go_wp2_with fail
                      refine (jrecords_any jb8 b v8 jn _ HJ16.out.jo).mono ?_
                      rintro e w17 ⟨v17, rfl, _, ho17, hb17⟩
                      have hsp17 : ∀ k, v17.ownBlock = some k → ¬ owned b mb jb8 v8 k := fun k hk h => by
                        have h1 := HJ16.out.old k h
                        have h2 := owns_block ho17 k hk
                        omega
                      have HA17 := Lib.hid (show At4 w b mb T.1.start jn num' jb8 v8 v17 w17 from ⟨HJ16.out.below hb17, owns_rebase ho17 HJ16.out.bel.size, hsp17, HLEN.out⟩)
                      clear ho17 hb17 hsp17
                      go_wp2_with fail
                      go_roundw
                      case rel => exact ⟨r + 1, T.1.start, jn, num', jb8, v8, v17, by omega, by go_num, rfl, rfl, rfl, HA17.out, by have := HJN.out; omega, (fun h => by omega), fun h => (HTN.out (by omega)).same rfl⟩
                      case measure => simp [intOf]; omega
              · rw [if_pos rfl]
                go_wp2_with fail
                refine HOPS.out.mono ?_
                rintro e w6 hp
                unfold OpPost at hp
                rw [show saveF m1 j last = T from HT.out.symm] at hp
                obtain ⟨rfl, hd6, ho6, v6, hj6, hv6⟩ := hp
                have hx6 := HX5.out.op hd6 ho6 hj6 hv6
                have hown6 := owns_only HOWN5.out ho6 HA.out.sep
                have HX6 := Lib.hid hx6.1
                have HOWN6 := Lib.hid hown6
                clear hd6 ho6 hj6 hv6 hx6 hown6
                rcases HCASE.out with ⟨hjq, he⟩ | ⟨hjq, he⟩
                · have HBQ : Hid (jn.base = j.base) := Lib.hid (by rw [hjq])
                  have HRQ : Hid (jn.recs = j.recs) := Lib.hid (by rw [hjq])
                  clear hjq
                  rcases he with he | he
                  all_goals
                    as_aux_lemma =>
                      rw [he]
                      go_wp2_with fail
                      refine (start_any b mb T.1 _ HX6.out.disk).mono ?_
                      rintro e w7 ⟨rfl, hd7, ho7⟩
                      have hx7 := HX6.out.disk_turns hd7 ho7
                      have hown7 := owns_only HOWN6.out ho7 (fun k hk h => HA.out.sep k hk (.inl h))
                      have hln7 := HLN.out.same (m' := T.1.start) rfl hd7.wf
                      have HX7 := Lib.hid hx7
                      have HOWN7 := Lib.hid hown7
                      have HLN7 := Lib.hid hln7
                      clear hd7 ho7 hx7 hown7 hln7
                      go_wp2_with fail
                      refine (jopen_any b mb T.1.start _ HX7.out.disk).mono ?_
                      rintro e w8 hp8
                      have hje : ({ jn with dead := false } : JM) = jn := by have := HJD.out; cases jn; cases this; rfl
                      rw [HLN7.out.on.opens rfl, hje] at hp8
                      obtain ⟨hb8, jb8, v8, rfl, hj8, hlj8, hv8⟩ := hp8
                      have hx8 := HX7.out.below hb8
                      have HJ8 := Lib.hid (show JS w b mb T.1.start jn num' jb8 v8 w8 from ⟨HLN7.out, rfl, rfl, HJD.out, hx8.disk, hj8, HA.out.js.b0, HA.out.js.mb0, Nat.le_trans HX7.out.bel.size hlj8, (fun k hk => Nat.le_trans HX7.out.bel.size (hv8 k hk)), hx8.bel⟩)
                      have HOWN8 := Lib.hid (owns_below HOWN7.out hb8 (Nat.le_refl _))
                      have hnn8 : jn.recs.length ≤ 4097 := by have := HJ8.out.on.on.nlt; omega
                      clear hb8 hj8 hlj8 hv8 hx8 hje
                      go_wp2_with fail
                      refine (jbase_any jb8 b v8 jn _ HJ8.out.jo).mono ?_
                      rintro e w9 ⟨rfl, hw9⟩
                      have hw9 := hw9.symm
                      subst hw9
                      rw [HBQ.out]
                      go_wp2_with fail
                      refine (jrecords_any jb8 b v8 jn _ HJ8.out.jo).mono ?_
                      rintro e w9 ⟨v9, rfl, hs9, _, hb9⟩
                      have HJ9 := Lib.hid (HJ8.out.below hb9)
                      have HOWN9 := Lib.hid (owns_below HOWN8.out hb9 (Nat.le_refl _))
                      have HS9 := Lib.hid hs9
                      clear hb9 hs9
                      go_wp2_with fail
                      refine (texts_any _ _ jn.recs j.recs _ HS9.out (StrsAt.own HOWN9.out rfl (by omega))).mono ?_
                      rintro e w10 ⟨rfl, hb10⟩
                      have HJ10 := Lib.hid (HJ9.out.below hb10)
                      have HOWN10 := Lib.hid (owns_below HOWN9.out hb10 (Nat.le_refl _))
                      clear hb10
                      generalize hq9 : decide (jn.recs = j.recs) = q9
                      obtain rfl : q9 = true := by rw [← hq9]; exact decide_eq_true HRQ.out
                      clear hq9
                      obtain ⟨a10, cc10, hae, _, hsrc10⟩ := (StrsAt.own HOWN10.out rfl (by omega)).out
                      injection hae with hae1 _ hae2
                      subst hae1 hae2
                      have hz10 : w.heap.size ≤ w10.heap.size := HJ10.out.bel.size
                      have hzz : w.heap.size ≤ (w10.alloc (.cells #[] 9)).heap.size := Nat.le_trans hz10 (alloc_size _ _)
                      have HSRC10 := Lib.hid hsrc10
                      clear hsrc10
                      go_wp2_with (first | ((with_reducible refine at_appStrs w.heap.size (.slice (some ⟨w10.heap.size, 0, none⟩) 0 0) 0 [] j.recs ad8 j.recs.length c8 rfl (new_empty w10 hz10) (src_below HSRC10.out (alloc_below _ _)) ?_ hzz ?_ ?_ ?_); omega; exact rfl; exact rfl; intro v12 w12 ho12 hg12 hv12; have hz12 : w.heap.size ≤ w12.heap.size := Nat.le_trans hzz hg12.size) | ((with_reducible refine at_appStrs w.heap.size v12 (0 + j.recs.length) ([] ++ j.recs) [last] (some ⟨w12.heap.size, 0, none⟩) 1 1 rfl (owns_below ho12 (alloc_below _ _) (Nat.le_refl _)) (row_src w12 last) ?_ (Nat.le_trans hz12 (alloc_size _ _)) ?_ ?_ ?_); omega; exact rfl; exact rfl; intro v14 w14 ho14 hg14 hv14) | fail)
                      have hb14 : Below w10.heap.size w10 w14 := app2_below hg12 hv12 hg14
                      rw [Nat.zero_add, List.nil_append] at ho14
                      have HO14 : Hid (w14.ownsRow w.heap.size 9 1 v14 (j.recs ++ [last]).length ((j.recs ++ [last]).map Value.string)) := Lib.hid (by rw [List.length_append, List.length_singleton]; exact ho14)
                      have HJ14 := Lib.hid (HJ10.out.below hb14)
                      clear hb14 ho12 hg12 hv12 hz12 ho14 hg14 hv14 hz10 hzz
                      refine (jbase_any jb8 b v8 jn _ HJ14.out.jo).mono ?_
                      rintro e w15 ⟨rfl, hw15⟩
                      have hw15 := hw15.symm
                      subst hw15
                      rw [HBQ.out]
                      by_cases hbl : j.base.toList = last.toList
                      · skip
                        go_wp2_with fail
                        refine (jrecords_any jb8 b v8 jn _ HJ14.out.jo).mono ?_
                        rintro e w15 ⟨v15, rfl, hs15, _, hb15⟩
                        have HJ15 := Lib.hid (HJ14.out.below hb15)
                        have HO15 := Lib.hid (owns_below HO14.out hb15 (Nat.le_refl _))
                        have HS15 := Lib.hid hs15
                        clear hb15 hs15
                        go_wp2_with fail
                        refine (texts_any _ _ jn.recs [] _ HS15.out (StrsAt.nil _)).mono ?_
                        rintro e w16 ⟨rfl, hb16⟩
                        have HJ16 := Lib.hid (HJ15.out.below hb16)
                        clear hb16
                        generalize hq16 : decide (jn.recs = []) = q16
                        cases q16
                        · clear hq16
                          go_wp2_with fail
                          refine (jbase_any jb8 b v8 jn _ HJ16.out.jo).mono ?_
                          rintro e w17 ⟨rfl, hw17⟩
                          have hw17 := hw17.symm
                          subst hw17
                          go_wp2_with fail
                          refine (jrecords_any jb8 b v8 jn _ HJ16.out.jo).mono ?_
                          rintro e w17 ⟨v17, rfl, _, ho17, hb17⟩
                          have hsp17 : ∀ k, v17.ownBlock = some k → ¬ owned b mb jb8 v8 k := fun k hk h => by
                            have h1 := HJ16.out.old k h
                            have h2 := owns_block ho17 k hk
                            omega
                          have HA17 := Lib.hid (show At4 w b mb T.1.start jn num' jb8 v8 v17 w17 from ⟨HJ16.out.below hb17, owns_rebase ho17 HJ16.out.bel.size, hsp17, HLEN.out⟩)
                          clear ho17 hb17 hsp17
                          go_wp2_with fail
                          go_roundw
                          case rel => exact ⟨r + 1, T.1.start, jn, num', jb8, v8, v17, by omega, by go_num, rfl, rfl, rfl, HA17.out, by have := HJN.out; omega, (fun h => by omega), fun h => (HTN.out (by omega)).same rfl⟩
                          case measure => simp [intOf]; omega
                        · clear hq16
                          go_wp2_with fail
                          refine (jbase_any jb8 b v8 jn _ HJ16.out.jo).mono ?_
                          rintro e w17 ⟨rfl, hw17⟩
                          have hw17 := hw17.symm
                          subst hw17
                          go_wp2_with fail
                          refine (jrecords_any jb8 b v8 jn _ HJ16.out.jo).mono ?_
                          rintro e w17 ⟨v17, rfl, _, ho17, hb17⟩
                          have hsp17 : ∀ k, v17.ownBlock = some k → ¬ owned b mb jb8 v8 k := fun k hk h => by
                            have h1 := HJ16.out.old k h
                            have h2 := owns_block ho17 k hk
                            omega
                          have HA17 := Lib.hid (show At4 w b mb T.1.start jn num' jb8 v8 v17 w17 from ⟨HJ16.out.below hb17, owns_rebase ho17 HJ16.out.bel.size, hsp17, HLEN.out⟩)
                          clear ho17 hb17 hsp17
                          go_wp2_with fail
                          go_roundw
                          case rel => exact ⟨r + 1, T.1.start, jn, num', jb8, v8, v17, by omega, by go_num, rfl, rfl, rfl, HA17.out, by have := HJN.out; omega, (fun h => by omega), fun h => (HTN.out (by omega)).same rfl⟩
                          case measure => simp [intOf]; omega
                      · skip
                        go_wp2_with fail
                        refine (jbase_any jb8 b v8 jn _ HJ14.out.jo).mono ?_
                        rintro e w17 ⟨rfl, hw17⟩
                        have hw17 := hw17.symm
                        subst hw17
                        go_wp2_with fail
                        refine (jrecords_any jb8 b v8 jn _ HJ14.out.jo).mono ?_
                        rintro e w17 ⟨v17, rfl, _, ho17, hb17⟩
                        have hsp17 : ∀ k, v17.ownBlock = some k → ¬ owned b mb jb8 v8 k := fun k hk h => by
                          have h1 := HJ14.out.old k h
                          have h2 := owns_block ho17 k hk
                          omega
                        have HA17 := Lib.hid (show At4 w b mb T.1.start jn num' jb8 v8 v17 w17 from ⟨HJ14.out.below hb17, owns_rebase ho17 HJ14.out.bel.size, hsp17, HLEN.out⟩)
                        clear ho17 hb17 hsp17
                        go_wp2_with fail
                        go_roundw
                        case rel => exact ⟨r + 1, T.1.start, jn, num', jb8, v8, v17, by omega, by go_num, rfl, rfl, rfl, HA17.out, by have := HJN.out; omega, (fun h => by omega), fun h => (HTN.out (by omega)).same rfl⟩
                        case measure => simp [intOf]; omega
                · have HBQ : Hid (jn.base = last) := Lib.hid (by rw [hjq]; rfl)
                  have HRQ : Hid (jn.recs = []) := Lib.hid (by rw [hjq]; rfl)
                  clear hjq
                  rcases he with he | he
                  all_goals
                    as_aux_lemma =>
                      rw [he]
                      go_wp2_with fail
                      refine (start_any b mb T.1 _ HX6.out.disk).mono ?_
                      rintro e w7 ⟨rfl, hd7, ho7⟩
                      have hx7 := HX6.out.disk_turns hd7 ho7
                      have hown7 := owns_only HOWN6.out ho7 (fun k hk h => HA.out.sep k hk (.inl h))
                      have hln7 := HLN.out.same (m' := T.1.start) rfl hd7.wf
                      have HX7 := Lib.hid hx7
                      have HOWN7 := Lib.hid hown7
                      have HLN7 := Lib.hid hln7
                      clear hd7 ho7 hx7 hown7 hln7
                      go_wp2_with fail
                      refine (jopen_any b mb T.1.start _ HX7.out.disk).mono ?_
                      rintro e w8 hp8
                      have hje : ({ jn with dead := false } : JM) = jn := by have := HJD.out; cases jn; cases this; rfl
                      rw [HLN7.out.on.opens rfl, hje] at hp8
                      obtain ⟨hb8, jb8, v8, rfl, hj8, hlj8, hv8⟩ := hp8
                      have hx8 := HX7.out.below hb8
                      have HJ8 := Lib.hid (show JS w b mb T.1.start jn num' jb8 v8 w8 from ⟨HLN7.out, rfl, rfl, HJD.out, hx8.disk, hj8, HA.out.js.b0, HA.out.js.mb0, Nat.le_trans HX7.out.bel.size hlj8, (fun k hk => Nat.le_trans HX7.out.bel.size (hv8 k hk)), hx8.bel⟩)
                      have HOWN8 := Lib.hid (owns_below HOWN7.out hb8 (Nat.le_refl _))
                      have hnn8 : jn.recs.length ≤ 4097 := by have := HJ8.out.on.on.nlt; omega
                      clear hb8 hj8 hlj8 hv8 hx8 hje
                      go_wp2_with fail
                      refine (jbase_any jb8 b v8 jn _ HJ8.out.jo).mono ?_
                      rintro e w9 ⟨rfl, hw9⟩
                      have hw9 := hw9.symm
                      subst hw9
                      rw [HBQ.out]
                      by_cases hbl : last.toList = j.base.toList
                      · skip
                        go_wp2_with fail
                        refine (jrecords_any jb8 b v8 jn _ HJ8.out.jo).mono ?_
                        rintro e w9 ⟨v9, rfl, hs9, _, hb9⟩
                        have HJ9 := Lib.hid (HJ8.out.below hb9)
                        have HOWN9 := Lib.hid (owns_below HOWN8.out hb9 (Nat.le_refl _))
                        have HS9 := Lib.hid hs9
                        clear hb9 hs9
                        go_wp2_with fail
                        refine (texts_any _ _ jn.recs j.recs _ HS9.out (StrsAt.own HOWN9.out rfl (by omega))).mono ?_
                        rintro e w10 ⟨rfl, hb10⟩
                        have HJ10 := Lib.hid (HJ9.out.below hb10)
                        have HOWN10 := Lib.hid (owns_below HOWN9.out hb10 (Nat.le_refl _))
                        clear hb10
                        generalize hq9 : decide (jn.recs = j.recs) = q9
                        cases q9
                        · clear hq9
                          obtain ⟨a10, cc10, hae, _, hsrc10⟩ := (StrsAt.own HOWN10.out rfl (by omega)).out
                          injection hae with hae1 _ hae2
                          subst hae1 hae2
                          have hz10 : w.heap.size ≤ w10.heap.size := HJ10.out.bel.size
                          have hzz : w.heap.size ≤ (w10.alloc (.cells #[] 9)).heap.size := Nat.le_trans hz10 (alloc_size _ _)
                          have HSRC10 := Lib.hid hsrc10
                          clear hsrc10
                          go_wp2_with (first | ((with_reducible refine at_appStrs w.heap.size (.slice (some ⟨w10.heap.size, 0, none⟩) 0 0) 0 [] j.recs ad8 j.recs.length c8 rfl (new_empty w10 hz10) (src_below HSRC10.out (alloc_below _ _)) ?_ hzz ?_ ?_ ?_); omega; exact rfl; exact rfl; intro v12 w12 ho12 hg12 hv12; have hz12 : w.heap.size ≤ w12.heap.size := Nat.le_trans hzz hg12.size) | ((with_reducible refine at_appStrs w.heap.size v12 (0 + j.recs.length) ([] ++ j.recs) [last] (some ⟨w12.heap.size, 0, none⟩) 1 1 rfl (owns_below ho12 (alloc_below _ _) (Nat.le_refl _)) (row_src w12 last) ?_ (Nat.le_trans hz12 (alloc_size _ _)) ?_ ?_ ?_); omega; exact rfl; exact rfl; intro v14 w14 ho14 hg14 hv14) | fail)
                          have hb14 : Below w10.heap.size w10 w14 := app2_below hg12 hv12 hg14
                          rw [Nat.zero_add, List.nil_append] at ho14
                          have HO14 : Hid (w14.ownsRow w.heap.size 9 1 v14 (j.recs ++ [last]).length ((j.recs ++ [last]).map Value.string)) := Lib.hid (by rw [List.length_append, List.length_singleton]; exact ho14)
                          have HJ14 := Lib.hid (HJ10.out.below hb14)
                          clear hb14 ho12 hg12 hv12 hz12 ho14 hg14 hv14 hz10 hzz
                          refine (jbase_any jb8 b v8 jn _ HJ14.out.jo).mono ?_
                          rintro e w15 ⟨rfl, hw15⟩
                          have hw15 := hw15.symm
                          subst hw15
                          rw [HBQ.out]
                          go_wp2_with fail
                          refine (jrecords_any jb8 b v8 jn _ HJ14.out.jo).mono ?_
                          rintro e w15 ⟨v15, rfl, hs15, _, hb15⟩
                          have HJ15 := Lib.hid (HJ14.out.below hb15)
                          have HO15 := Lib.hid (owns_below HO14.out hb15 (Nat.le_refl _))
                          have HS15 := Lib.hid hs15
                          clear hb15 hs15
                          go_wp2_with fail
                          refine (texts_any _ _ jn.recs [] _ HS15.out (StrsAt.nil _)).mono ?_
                          rintro e w16 ⟨rfl, hb16⟩
                          have HJ16 := Lib.hid (HJ15.out.below hb16)
                          clear hb16
                          generalize hq16 : decide (jn.recs = []) = q16
                          obtain rfl : q16 = true := by rw [← hq16]; exact decide_eq_true HRQ.out
                          clear hq16
                          go_wp2_with fail
                          refine (jbase_any jb8 b v8 jn _ HJ16.out.jo).mono ?_
                          rintro e w17 ⟨rfl, hw17⟩
                          have hw17 := hw17.symm
                          subst hw17
                          go_wp2_with fail
                          refine (jrecords_any jb8 b v8 jn _ HJ16.out.jo).mono ?_
                          rintro e w17 ⟨v17, rfl, _, ho17, hb17⟩
                          have hsp17 : ∀ k, v17.ownBlock = some k → ¬ owned b mb jb8 v8 k := fun k hk h => by
                            have h1 := HJ16.out.old k h
                            have h2 := owns_block ho17 k hk
                            omega
                          have HA17 := Lib.hid (show At4 w b mb T.1.start jn num' jb8 v8 v17 w17 from ⟨HJ16.out.below hb17, owns_rebase ho17 HJ16.out.bel.size, hsp17, HLEN.out⟩)
                          clear ho17 hb17 hsp17
                          go_wp2_with fail
                          go_roundw
                          case rel => exact ⟨r + 1, T.1.start, jn, num', jb8, v8, v17, by omega, by go_num, rfl, rfl, rfl, HA17.out, by have := HJN.out; omega, (fun h => by omega), fun h => (HTN.out (by omega)).same rfl⟩
                          case measure => simp [intOf]; omega
                        · clear hq9
                          obtain ⟨a10, cc10, hae, _, hsrc10⟩ := (StrsAt.own HOWN10.out rfl (by omega)).out
                          injection hae with hae1 _ hae2
                          subst hae1 hae2
                          have hz10 : w.heap.size ≤ w10.heap.size := HJ10.out.bel.size
                          have hzz : w.heap.size ≤ (w10.alloc (.cells #[] 9)).heap.size := Nat.le_trans hz10 (alloc_size _ _)
                          have HSRC10 := Lib.hid hsrc10
                          clear hsrc10
                          go_wp2_with (first | ((with_reducible refine at_appStrs w.heap.size (.slice (some ⟨w10.heap.size, 0, none⟩) 0 0) 0 [] j.recs ad8 j.recs.length c8 rfl (new_empty w10 hz10) (src_below HSRC10.out (alloc_below _ _)) ?_ hzz ?_ ?_ ?_); omega; exact rfl; exact rfl; intro v12 w12 ho12 hg12 hv12; have hz12 : w.heap.size ≤ w12.heap.size := Nat.le_trans hzz hg12.size) | ((with_reducible refine at_appStrs w.heap.size v12 (0 + j.recs.length) ([] ++ j.recs) [last] (some ⟨w12.heap.size, 0, none⟩) 1 1 rfl (owns_below ho12 (alloc_below _ _) (Nat.le_refl _)) (row_src w12 last) ?_ (Nat.le_trans hz12 (alloc_size _ _)) ?_ ?_ ?_); omega; exact rfl; exact rfl; intro v14 w14 ho14 hg14 hv14) | fail)
                          have hb14 : Below w10.heap.size w10 w14 := app2_below hg12 hv12 hg14
                          rw [Nat.zero_add, List.nil_append] at ho14
                          have HO14 : Hid (w14.ownsRow w.heap.size 9 1 v14 (j.recs ++ [last]).length ((j.recs ++ [last]).map Value.string)) := Lib.hid (by rw [List.length_append, List.length_singleton]; exact ho14)
                          have HJ14 := Lib.hid (HJ10.out.below hb14)
                          clear hb14 ho12 hg12 hv12 hz12 ho14 hg14 hv14 hz10 hzz
                          refine (jbase_any jb8 b v8 jn _ HJ14.out.jo).mono ?_
                          rintro e w15 ⟨rfl, hw15⟩
                          have hw15 := hw15.symm
                          subst hw15
                          rw [HBQ.out]
                          go_wp2_with fail
                          refine (jrecords_any jb8 b v8 jn _ HJ14.out.jo).mono ?_
                          rintro e w15 ⟨v15, rfl, hs15, _, hb15⟩
                          have HJ15 := Lib.hid (HJ14.out.below hb15)
                          have HO15 := Lib.hid (owns_below HO14.out hb15 (Nat.le_refl _))
                          have HS15 := Lib.hid hs15
                          clear hb15 hs15
                          go_wp2_with fail
                          refine (texts_any _ _ jn.recs [] _ HS15.out (StrsAt.nil _)).mono ?_
                          rintro e w16 ⟨rfl, hb16⟩
                          have HJ16 := Lib.hid (HJ15.out.below hb16)
                          clear hb16
                          generalize hq16 : decide (jn.recs = []) = q16
                          obtain rfl : q16 = true := by rw [← hq16]; exact decide_eq_true HRQ.out
                          clear hq16
                          go_wp2_with fail
                          refine (jbase_any jb8 b v8 jn _ HJ16.out.jo).mono ?_
                          rintro e w17 ⟨rfl, hw17⟩
                          have hw17 := hw17.symm
                          subst hw17
                          go_wp2_with fail
                          refine (jrecords_any jb8 b v8 jn _ HJ16.out.jo).mono ?_
                          rintro e w17 ⟨v17, rfl, _, ho17, hb17⟩
                          have hsp17 : ∀ k, v17.ownBlock = some k → ¬ owned b mb jb8 v8 k := fun k hk h => by
                            have h1 := HJ16.out.old k h
                            have h2 := owns_block ho17 k hk
                            omega
                          have HA17 := Lib.hid (show At4 w b mb T.1.start jn num' jb8 v8 v17 w17 from ⟨HJ16.out.below hb17, owns_rebase ho17 HJ16.out.bel.size, hsp17, HLEN.out⟩)
                          clear ho17 hb17 hsp17
                          go_wp2_with fail
                          go_roundw
                          case rel => exact ⟨r + 1, T.1.start, jn, num', jb8, v8, v17, by omega, by go_num, rfl, rfl, rfl, HA17.out, by have := HJN.out; omega, (fun h => by omega), fun h => (HTN.out (by omega)).same rfl⟩
                          case measure => simp [intOf]; omega
                      · have HJ10 := HJ8
                        have HOWN10 := HOWN8
                        obtain ⟨a10, cc10, hae, _, hsrc10⟩ := (StrsAt.own HOWN10.out rfl (by omega)).out
                        injection hae with hae1 _ hae2
                        subst hae1 hae2
                        have hz10 : w.heap.size ≤ w8.heap.size := HJ10.out.bel.size
                        have hzz : w.heap.size ≤ (w8.alloc (.cells #[] 9)).heap.size := Nat.le_trans hz10 (alloc_size _ _)
                        have HSRC10 := Lib.hid hsrc10
                        clear hsrc10
                        go_wp2_with (first | ((with_reducible refine at_appStrs w.heap.size (.slice (some ⟨w8.heap.size, 0, none⟩) 0 0) 0 [] j.recs ad8 j.recs.length c8 rfl (new_empty w8 hz10) (src_below HSRC10.out (alloc_below _ _)) ?_ hzz ?_ ?_ ?_); omega; exact rfl; exact rfl; intro v12 w12 ho12 hg12 hv12; have hz12 : w.heap.size ≤ w12.heap.size := Nat.le_trans hzz hg12.size) | ((with_reducible refine at_appStrs w.heap.size v12 (0 + j.recs.length) ([] ++ j.recs) [last] (some ⟨w12.heap.size, 0, none⟩) 1 1 rfl (owns_below ho12 (alloc_below _ _) (Nat.le_refl _)) (row_src w12 last) ?_ (Nat.le_trans hz12 (alloc_size _ _)) ?_ ?_ ?_); omega; exact rfl; exact rfl; intro v14 w14 ho14 hg14 hv14) | fail)
                        have hb14 : Below w8.heap.size w8 w14 := app2_below hg12 hv12 hg14
                        rw [Nat.zero_add, List.nil_append] at ho14
                        have HO14 : Hid (w14.ownsRow w.heap.size 9 1 v14 (j.recs ++ [last]).length ((j.recs ++ [last]).map Value.string)) := Lib.hid (by rw [List.length_append, List.length_singleton]; exact ho14)
                        have HJ14 := Lib.hid (HJ10.out.below hb14)
                        clear hb14 ho12 hg12 hv12 hz12 ho14 hg14 hv14 hz10 hzz
                        refine (jbase_any jb8 b v8 jn _ HJ14.out.jo).mono ?_
                        rintro e w15 ⟨rfl, hw15⟩
                        have hw15 := hw15.symm
                        subst hw15
                        rw [HBQ.out]
                        go_wp2_with fail
                        refine (jrecords_any jb8 b v8 jn _ HJ14.out.jo).mono ?_
                        rintro e w15 ⟨v15, rfl, hs15, _, hb15⟩
                        have HJ15 := Lib.hid (HJ14.out.below hb15)
                        have HO15 := Lib.hid (owns_below HO14.out hb15 (Nat.le_refl _))
                        have HS15 := Lib.hid hs15
                        clear hb15 hs15
                        go_wp2_with fail
                        refine (texts_any _ _ jn.recs [] _ HS15.out (StrsAt.nil _)).mono ?_
                        rintro e w16 ⟨rfl, hb16⟩
                        have HJ16 := Lib.hid (HJ15.out.below hb16)
                        clear hb16
                        generalize hq16 : decide (jn.recs = []) = q16
                        obtain rfl : q16 = true := by rw [← hq16]; exact decide_eq_true HRQ.out
                        clear hq16
                        go_wp2_with fail
                        refine (jbase_any jb8 b v8 jn _ HJ16.out.jo).mono ?_
                        rintro e w17 ⟨rfl, hw17⟩
                        have hw17 := hw17.symm
                        subst hw17
                        go_wp2_with fail
                        refine (jrecords_any jb8 b v8 jn _ HJ16.out.jo).mono ?_
                        rintro e w17 ⟨v17, rfl, _, ho17, hb17⟩
                        have hsp17 : ∀ k, v17.ownBlock = some k → ¬ owned b mb jb8 v8 k := fun k hk h => by
                          have h1 := HJ16.out.old k h
                          have h2 := owns_block ho17 k hk
                          omega
                        have HA17 := Lib.hid (show At4 w b mb T.1.start jn num' jb8 v8 v17 w17 from ⟨HJ16.out.below hb17, owns_rebase ho17 HJ16.out.bel.size, hsp17, HLEN.out⟩)
                        clear ho17 hb17 hsp17
                        go_wp2_with fail
                        go_roundw
                        case rel => exact ⟨r + 1, T.1.start, jn, num', jb8, v8, v17, by omega, by go_num, rfl, rfl, rfl, HA17.out, by have := HJN.out; omega, (fun h => by omega), fun h => (HTN.out (by omega)).same rfl⟩
                        case measure => simp [intOf]; omega
            · have g3 : ¬ (r : Int) < 2 := by omega
              go_wp2_with fail
              refine (js_append HA.out.js eMore (by omega)).mono ?_
              rintro e w6 ⟨er, m', j', num', v', rfl, hjs, hl, hw, ho, hown, hcase⟩
              have hown6 := owns_only HA.out.own ho HA.out.sep
              have HOWN6 := Lib.hid hown6
              have HJ6 := Lib.hid hjs
              clear hl hw ho hown hown6 hjs
              rcases hcase with ⟨rfl, hj', _⟩ | ⟨rfl, _, _⟩ | ⟨_, _, _, hbad⟩
              · have HBQ : Hid (j'.base = j.base) := Lib.hid (by rw [hj']; rfl)
                have HRQ : Hid (j'.recs = j.recs ++ [eMore]) := Lib.hid (by rw [hj']; rfl)
                clear hj'
                go_wp2_with fail
                refine (js_open HJ6.out).mono ?_
                rintro e w8 ⟨jb8, v8, rfl, hj8, hb8, _⟩
                have HJ8 := Lib.hid hj8
                have HOWN8 := Lib.hid (owns_below HOWN6.out hb8 (Nat.le_refl _))
                clear hj8 hb8
                go_wp2_with fail
                refine (jbase_any jb8 b v8 j' _ HJ8.out.jo).mono ?_
                rintro e w9 ⟨rfl, hw9⟩
                have hw9 := hw9.symm
                subst hw9
                rw [HBQ.out]
                go_wp2_with fail
                refine (jrecords_any jb8 b v8 j' _ HJ8.out.jo).mono ?_
                rintro e w10 ⟨v9, rfl, hs9, _, hb9⟩
                have HJ10 := Lib.hid (HJ8.out.below hb9)
                have HOWN10 := Lib.hid (owns_below HOWN8.out hb9 (Nat.le_refl _))
                have HS9 := Lib.hid hs9
                clear hb9 hs9
                obtain ⟨a10, cc10, hae, _, hsrc10⟩ := (StrsAt.own HOWN10.out rfl (by omega)).out
                injection hae with hae1 _ hae2
                subst hae1 hae2
                have hz10 : w.heap.size ≤ w10.heap.size := HJ10.out.bel.size
                have hzz : w.heap.size ≤ (w10.alloc (.cells #[] 9)).heap.size := Nat.le_trans hz10 (alloc_size _ _)
                have HSRC10 := Lib.hid hsrc10
                clear hsrc10
                go_wp2_with (first | ((with_reducible refine at_appStrsG w.heap.size (.slice (some ⟨w10.heap.size, 0, none⟩) 0 0) 0 [] j.recs ad8 j.recs.length c8 rfl (new_empty w10 hz10) (src_below HSRC10.out (alloc_below _ _)) ?_ hzz ?_ ?_ ?_ ?_); omega; (first | exact rfl | (go_simp; done)); exact rfl; exact rfl; intro v12 w12 ho12 hg12 hv12; have hz12 : w.heap.size ≤ w12.heap.size := Nat.le_trans hzz hg12.size) | ((with_reducible refine at_appStrsG w.heap.size v12 (0 + j.recs.length) ([] ++ j.recs) [⟨#[109, 111, 114, 101]⟩] (some ⟨w12.heap.size, 0, none⟩) 1 1 rfl (owns_below ho12 (alloc_below _ _) (Nat.le_refl _)) (row_src w12 ⟨#[109, 111, 114, 101]⟩) ?_ (Nat.le_trans hz12 (alloc_size _ _)) ?_ ?_ ?_ ?_); omega; (first | exact rfl | (go_simp; done)); exact rfl; exact rfl; intro v14 w14 ho14 hg14 hv14) | fail)
                have hb14 : Below w10.heap.size w10 w14 := app2_below hg12 hv12 hg14
                rw [Nat.zero_add, List.nil_append] at ho14
                have HO14 : Hid (w14.ownsRow w.heap.size 9 1 v14 (j.recs ++ [eMore]).length ((j.recs ++ [eMore]).map Value.string)) := Lib.hid (by rw [List.length_append, List.length_singleton]; exact ho14)
                have HB14 := Lib.hid (HJ10.out.bel.trans (hb14.mono HJ10.out.bel.size))
                have HS14 := Lib.hid (HS9.out.below hb14)
                clear hb14 ho12 hg12 hv12 hz12 ho14 hg14 hv14 hz10 hzz
                refine (texts_any _ _ j'.recs (j.recs ++ [eMore]) _ HS14.out (StrsAt.own HO14.out rfl (by rw [List.length_append, List.length_singleton]; omega))).mono ?_
                rintro e w16 ⟨rfl, hb16⟩
                have HB := Lib.hid (HB14.out.trans (hb16.mono HB14.out.size))
                clear hb16
                generalize hq16 : decide (j'.recs = j.recs ++ [eMore]) = q16
                obtain rfl : q16 = true := by rw [← hq16]; exact decide_eq_true HRQ.out
                clear hq16
                go_wp2_with fail
                refine (wakes12_any _).mono ?_
                rintro e w99 ⟨rfl, hb99⟩
                have HB99 := Lib.hid (H0.out.trans ((HB.out.trans (hb99.mono HB.out.size)).mono H0.out.size))
                clear hb99
                go_wp2_with fail
                go_ret
                exact ⟨rfl, HB99.out⟩
              · have HB := Lib.hid HJ6.out.bel
                go_wp2_with fail
                refine (wakes12_any _).mono ?_
                rintro e w99 ⟨rfl, hb99⟩
                have HB99 := Lib.hid (H0.out.trans ((HB.out.trans (hb99.mono HB.out.size)).mono H0.out.size))
                clear hb99
                go_wp2_with fail
                go_ret
                exact ⟨rfl, HB99.out⟩
              · have hbad : 60000 < eMore.size := hbad
                exact absurd hbad (by decide)
theorem own : ownKnob Tryd.prog.godebug = none := by kernel_rfl
theorem laidOut : laidOutB Tryd.prog = true := by kernel_rfl
set_option maxRecDepth 100000 in
theorem lifted (os : Os) (started : os.Started) (H : Type) (enc : TypeId × Value → H) :
    ReturnsInHanded {} Tryd.checked os 12 .any (fun w args => (Rows.journalSafeSpec.pre enc Tryd.prog Tryd.f12 [] false w args ∧ laidMetH Tryd.prog Rows.journalSafeRow.laid w) ∧ sizedMet enc Tryd.prog Tryd.f12 (OpenSpec.ofChange Rows.journalSafeSpec) false w args) (Rows.journalSafeSpec.post enc Tryd.prog Tryd.f12 false true false false) := by
  refine returnsInHanded_of_change_and (C := Tryd.checked) (X := fun w _ => laidMetH Tryd.prog Rows.journalSafeRow.laid w) (fun _ _ _ hh h => h.of_heap hh) own started (by kernel_rfl) Tryd.func12
    (ChangeSpec.witness_shaped (enc := enc) (C := Tryd.checked) (os := os) (X := fun w _ => laidMetH Tryd.prog Rows.journalSafeRow.laid w) false (World.laidAll Tryd.prog os Rows.journalSafeRow.laid) #[.slice none 0 0, .string ByteArray.empty, .agg #[.int .i64 0,.int .i64 0,.int .i64 0]] 8 (World.laidAll_os _ _ _)
      (World.shaped_of_ZipB (by kernel_rfl) (by kernel_rfl)) (by kernel_rfl) (by kernel_rfl) (by kernel_rfl)
      (by rw [MakeChecks.laidMetH_plain _ _ _ (by kernel_rfl)]; exact laidMet_laidAll _ (by kernel_rfl) (by kernel_rfl))) ?_
  intro W base args ds gs before hval0 hW _ _ _hL _
  have hval : ∀ (j : Nat) t v, Tryd.f12.params[j]? = some t → args[j]? = some v → Value.okWide Tryd.prog W .any base t v := hval0
  have hW' := hW
  obtain ⟨p, q, hA0, hV, rfl, hfz, hnd⟩ := hW
  have hA : DataW.TrodAll enc Tryd.prog W 0 (fun _ => true) true Tryd.f12.params.toList args.toList ds p := hA0
  rw [Tryd.params12] at hA hval
  obtain ⟨v0, vs0, d0, ds0, p0, q0, hargs, rfl, rfl, h0, r0⟩ := trodAll_cons hA
  obtain ⟨v1, vs1, d1, ds1, p1, q1, rfl, rfl, rfl, h1, r1⟩ := trodAll_cons r0
  obtain ⟨v2, vs2, d2, ds2, p2, q2, rfl, rfl, rfl, h2, r2⟩ := trodAll_cons r1
  obtain ⟨rfl, rfl, rfl⟩ := trodAll_nil r2
  obtain rfl : args = #[v0, v1, v2] := by cases args; simp_all
  obtain ⟨rfl, rfl⟩ := trodVars_none hV
  have k0 := h0
  have lt0 : ∀ x ∈ p0, x.block < W.heap.size := by obtain ⟨m, hm⟩ := k0; exact DataW.trod_lt m _ _ _ hm
  have k1 := h1
  have lt1 : ∀ x ∈ p1, x.block < W.heap.size := by obtain ⟨m, hm⟩ := k1; exact DataW.trod_lt m _ _ _ hm
  have k2 := h2
  have lt2 : ∀ x ∈ p2, x.block < W.heap.size := by obtain ⟨m, hm⟩ := k2; exact DataW.trod_lt m _ _ _ hm
  obtain ⟨ad0, ln0, cp0, e0⟩ := okWide_slice Tryd.underlying24 (hval 0 24 v0 rfl rfl)
  obtain ⟨a0, w0⟩ : ∃ a, SlR kSt W a v0 := by
    obtain ⟨fuel, hf⟩ := h0
    obtain ⟨a, hx⟩ := kSts.opn hf
    obtain ⟨v, hv, hs⟩ := hx
    rw [e0] at hv ⊢
    simp [Value.cells] at hv
    subst hv
    exact ⟨a, hs⟩
  obtain ⟨a1, rfl, e1, f1, w1⟩ := open_string Tryd.underlying9 (hval 1 9 v1 rfl rfl) h1
  obtain ⟨cs2, e2, _⟩ := okWide_array Tryd.underlying41 (hval 2 41 v2 rfl rfl)
  obtain ⟨a2, w2⟩ : ∃ a, kA3.R W a cs2.toList := by
    obtain ⟨fuel, hf⟩ := h2
    rw [e2] at hf
    exact kA3.opn hf
  subst e2
  clear hA0 hval0
  refine (walk W v0 a0 w0 a1 w1 cs2 a2 w2).mono fun e W' ⟨he, bel⟩ => ?_
  subst he
  exact ⟨_, rfl, _, _, _, [], _, [], hW', trodAll_mk1 (shut_bool Tryd.underlying4 _), (trodAll_cons_mk (Below.trod laidOut (by kernel_rfl) (of_decide_eq_true (by kernel_rfl)) k0 bel lt0) (trodAll_cons_mk (Below.trod laidOut (by kernel_rfl) (of_decide_eq_true (by kernel_rfl)) k1 bel lt1) (trodAll_cons_mk (Below.trod laidOut (by kernel_rfl) (of_decide_eq_true (by kernel_rfl)) k2 bel lt2) trodAll_mk0))), rfl, bel.frame _, fun h => by cases h⟩
theorem over : Rows.journalSafeRow.holds Tryd.pinned (OpenSpec.ofChange Rows.journalSafeSpec) :=
  OpenClaim.holds_of_wide 12 Tryd.f12 rfl rfl rfl rfl rfl rfl rfl ⟨rfl, rfl, rfl, rfl, rfl⟩ rfl rfl rfl rfl rfl (by kernel_rfl) Tryd.func12 (by kernel_rfl)
    (of_decide_eq_true (by kernel_rfl)) (by unfold Func.isWrapper; first | (rw [if_pos (by decide +kernel)]; kernel_rfl) | (rw [if_neg (by decide +kernel)]; exact ⟨rfl, rfl⟩))
    (fun os started H enc _ => lifted os started H enc)
theorem proved : Rows.JournalSafeCardSaid :=
  Claim7.holds_tied_plain_at .later [] [.data, .pinned] true (true, "6877f7e2fb9e4bf04a3fec629da088c07fb68b4a07f79f772c5242f81ffe7e52") true over (fun _ h => by cases h) (by kernel_rfl) (fun _ h => by cases h) journalSafe_row_tie rfl ⟨rfl, rfl⟩ (by kernel_rfl) rfl
    (fun f fn hf hfn => by
      obtain rfl : f = 12 := Option.some.inj ((show Tryd.prog.funcNamed Rows.journalSafeRow.func = some 12 by kernel_rfl).symm.trans hf) |>.symm
      obtain rfl : fn = Tryd.f12 := (Option.some.inj (Tryd.func12.symm.trans hfn)).symm
      exact ⟨by kernel_rfl, fun j t ht => by
        rw [Tryd.params12] at ht
        have hm : t ∈ [24, 9, 41] := by have h9 := Array.mem_of_getElem? ht; simp at h9 ⊢; omega
        have hall : ([24, 9, 41].all fun u => !Tryd.prog.wantsStandIn u) = true := by kernel_rfl
        exact (show Tryd.prog.wantsStandIn t = false by simpa using List.all_eq_true.1 hall t hm)⟩)
    (by kernel_rfl)
#print axioms proved
end Go.Proofs.YtnplcjcbojjecaaDoor.journalSafe
