import Derived.Test.YtimiehnknehagaaCmpP
import Derived.Test.YtimiehnknehagaaRowsK
set_option linter.unusedSimpArgs false
set_option linter.unusedVariables false
namespace Go.Proofs.Ytimiehnknehagaa
open Go.RowKit Go.Shelf Go.Sort Go.Lib
def encC (k : Int × Int) : List Value := [.int .i64 k.1, .int .i64 k.2]
theorem encC_len (k : Int × Int) : (encC k).length = 2 := rfl
theorem encC_one (k : Int × Int) : ∀ v ∈ encC k, v.oneCell' = true := by
  intro v hv
  simp [encC] at hv
  rcases hv with rfl | rfl <;> rfl
/-- Pairs in order. -/
def ltK (x y : Int × Int) : Prop := x.1 < y.1 ∨ (x.1 = y.1 ∧ x.2 < y.2)
theorem ltOf_cmpK (x y : Int × Int) : (ltOf cmpK x y = true) ↔ ltK x y := by
  unfold ltOf cmpK cmpI ltK
  rw [decide_eq_true_iff]
  by_cases h1 : x.1 < y.1
  · simp [h1]
  · by_cases h2 : y.1 < x.1
    · simp [h1, h2]; try omega
    · have : x.1 = y.1 := by omega
      simp [this]
      by_cases h3 : x.2 < y.2
      · simp [h3]
      · by_cases h4 : y.2 < x.2
        · simp [h3, h4]; try omega
        · simp [h3, h4]
theorem ltOf_cmpK_false (x y : Int × Int) : (ltOf cmpK x y = false) ↔ ¬ ltK x y := by
  rw [← ltOf_cmpK]; simp
theorem swoK : SWO (ltOf cmpK) where
  irrefl x := by rw [ltOf_cmpK_false]; unfold ltK; omega
  trans x y z h1 h2 := by rw [ltOf_cmpK] at *; unfold ltK at *; omega
  ntrans x y z h1 h2 := by rw [ltOf_cmpK_false] at *; unfold ltK at *; omega
theorem totK (x y : Int × Int) (h1 : ltOf cmpK x y = false) (h2 : ltOf cmpK y x = false) : x = y := by
  rw [ltOf_cmpK_false] at h1 h2
  unfold ltK at h1 h2
  exact Prod.ext (by omega) (by omega)
theorem holds_own {w : World} {base n g cap : Nat} {ks : List (Int × Int)} (h : w.ownsRow base 63 2 (.slice (some ⟨g, 0, none⟩) n cap) n (cellsK ks)) (hn : n = ks.length) : HoldsK encC 2 w g 0 ks.toArray ∧ base ≤ g ∧ g < w.heap.size := by
  subst hn
  rcases h.2 with ⟨h0, _⟩ | ⟨g', cap', cur, hv, h2, h3, h4, h5, h6, h7⟩
  · cases h0
  · injection hv with hv _ hc
    injection hv with hv
    injection hv with hv
    subst hv
    refine ⟨fun t ht => ?_, h2, lt_of_block h3⟩
    rw [size_flatK] at ht
    have ht : t < ks.length * 2 := by simpa using ht
    have hi : t / 2 < ks.length := by omega
    have e := flat_get encC_len ks (t / 2) ks[t / 2] (List.getElem?_eq_getElem hi) (t % 2) ((encC ks[t / 2])[t % 2]'(by rw [encC_len]; omega)) (List.getElem?_eq_getElem _)
    rw [show t / 2 * 2 + t % 2 = t by omega] at e
    have e2 : (cur.toList.take (ks.length * 2))[t]? = some ((encC ks[t / 2])[t % 2]'(by rw [encC_len]; omega)) := by rw [h7]; exact e
    rw [List.getElem?_take_of_lt ht, Array.getElem?_toList] at e2
    have e3 : (flatK encC 2 ks.toArray)[t]! = (encC ks[t / 2])[t % 2]'(by rw [encC_len]; omega) := by
      rw [get_flatK _ _ _ _ (by simpa using ht)]
      simp [hi]
      rw [List.getElem?_eq_getElem (by rw [encC_len]; omega)]; rfl
    rw [e3]
    constructor
    · simp only [World.cell?, h3, Nat.zero_add]; exact e2
    · simp [World.frozen?, h3]
theorem only_sort {w : World} {blk off n : Nat} {d : Array (Int × Int)} {os : Array Obj} : Only (fun k => k = blk) w (sortWorldK encC 2 w blk off n d os) := by
  refine ⟨rfl, rfl, rfl, size_sortWorldK_c encC 2 w blk off n d os, fun i hi hb => ?_⟩
  unfold sortWorldK
  show ((w.heap.modify blk _) ++ os)[i]? = _
  rw [Array.getElem?_append_left (by simpa using hi), Array.getElem?_modify, if_neg (fun e => hb e.symm)]
theorem rows_holds {w : World} {g n cap : Nat} {L : List (Int × Int)} (h : HoldsK encC 2 w g 0 L.toArray) (hn : n = L.length) (hc : n ≤ cap) (hm : n ≤ 1000000) (hg : g < w.heap.size) : RowsAt encC 2 w (.slice (some ⟨g, 0, none⟩) n cap) L := by
  subst hn
  refine ⟨_, _, rfl, hc, by omega, fun _ => ⟨g, 0, rfl, hg, fun i x hi j u hj => ?_⟩⟩
  obtain ⟨hil, hix⟩ := List.getElem?_eq_some_iff.1 hi
  obtain ⟨hjl, hju⟩ := List.getElem?_eq_some_iff.1 hj
  have := (h.cell (i := i) (c := j) (by simpa using hil) (by rw [encC_len] at hjl; exact hjl)).1
  rw [this]
  simp [hil]
  rw [hix, hj]; rfl
/-- What a sorted list of a map's keys is. -/
def SortedKeys (f : Int × Int → Option Value) (L : List (Int × Int)) : Prop := L.Pairwise ltK ∧ ∀ k, k ∈ L ↔ (f k).isSome = true
theorem sorted_keys {f : Int × Int → Option Value} {ks : List (Int × Int)} (h : KeysOf f ks) : SortedKeys f (ks.mergeSort fun x y => !(ltOf cmpK) y x) := by
  obtain ⟨h1, h2⟩ := h
  have hp := List.mergeSort_perm ks (fun x y => !(ltOf cmpK) y x)
  have hs := List.pairwise_mergeSort (le := fun x y => !(ltOf cmpK) y x) (fun a b c h1 h2 => by
    simp only [Bool.not_eq_true'] at *
    exact swoK.ntrans _ _ _ h2 h1) (fun a b => by
    cases h1 : ltOf cmpK b a with
    | false => rfl
    | true =>
      cases h2 : ltOf cmpK a b with
      | false => rfl
      | true => have := swoK.trans _ _ _ h1 h2; rw [swoK.irrefl] at this; cases this) ks
  refine ⟨?_, fun k => by rw [hp.mem_iff]; exact h2 k⟩
  have hn := hp.nodup_iff.2 h1
  refine List.Pairwise.imp₂ (fun a b hle hne => ?_) hs hn
  simp only [Bool.not_eq_true', ltOf_cmpK_false] at hle
  by_cases h : ltK a b
  · exact h
  · exact absurd (totK a b ((ltOf_cmpK_false a b).2 h) ((ltOf_cmpK_false b a).2 hle)) hne
set_option maxHeartbeats 2000000 in
theorem sortedFunc_any (Bm b N : Nat) (hNb : N ≤ 1000000) (f : Int × Int → Option Value) (hN : ∀ ks : List (Int × Int), ks.Nodup → (∀ k ∈ ks, (f k).isSome = true) → ks.length ≤ N) (w : World) (hBm : w.cell? ⟨Bm, 0, none⟩ = some (.map (some b))) (hM : MapIs w encK b f) :
    Calls Try.prog 34 #[.func (.func 41) #[] #[.pointer (some ⟨Bm, 0, none⟩)], .func (.func 36) #[] #[]] w fun e w' => ∃ v L, e = .returned v ∧ SortedKeys f L ∧ L.length ≤ N ∧ RowsAt encC 2 w' v L ∧ Below w.heap.size w w' := by
  have aE : ∀ w, (isAgg 63).run Try.prog w = .ok true w := fun w => by simp [isAgg, run_underlying key_u]
  have zE : ∀ w, (Go.sizeOf 63).run Try.prog w = .ok 2 w := fun w => by
    obtain ⟨i0, hi, hz0, hz1, hz2⟩ := info_parts key_info
    simp [Go.sizeOf, typeInfo, hi, hz1]
  have eg : ∀ args w, (callFunc 36 args).run Try.prog w = .ok (.enter 36 args) w := enters_of Try.func36 (by kernel_rfl) rfl
  have hm := Lib.hid hM
  have hn := Lib.hid hN
  have HA := Lib.hid aE
  have HZ := Lib.hid zE
  have HE := Lib.hid eg
  clear hM hN aE zE eg
  go_enter Try.func34, Try.ntmps34
  go_wp2_with fail
  refine (collect_any Bm b N hNb f hn.out w hBm hm.out).mono ?_
  rintro e w1 ⟨v, ks, rfl, hk, ho, hb⟩
  have hkl := hn.out ks hk.1 (fun k hkm => (hk.2 k).1 hkm)
  have HS := Lib.hid (sorted_keys hk)
  have HK := Lib.hid hk
  have HO := Lib.hid ho
  have HB := Lib.hid hb
  by_cases h0 : ks.length = 0
  · have hks : ks = [] := List.length_eq_zero_iff.1 h0
    subst hks
    obtain ⟨p, c, rfl⟩ : ∃ p c, v = .slice p 0 c := by
      rcases ho.2 with ⟨rfl, _⟩ | ⟨g, cap, cur, rfl, _⟩
      · exact ⟨_, _, rfl⟩
      · exact ⟨_, _, rfl⟩
    clear hk ho hb
    have hcon := AnyF.slices_SortFunc_none Try.sortKey p c (.func (.func 36) #[] #[]) w1
    change Calls Try.prog 40 _ _ _ at hcon
    have HC := Lib.hid hcon
    clear hcon
    go_wp2_with fail
    refine HC.out.mono ?_
    rintro e w2 ⟨rfl, hw2⟩
    have hw2 := hw2.symm
    subst hw2
    go_wp2_with fail
    go_ret
    exact ⟨_, [], rfl, ⟨List.Pairwise.nil, fun k => (HK.out.2 k)⟩, by simp, ⟨p, c, rfl, by simp, by simp, fun h => by simp at h⟩, HB.out⟩
  · obtain ⟨g, cap, hv⟩ : ∃ g cap, v = .slice (some ⟨g, 0, none⟩) ks.length cap := by
      rcases ho.2 with ⟨_, h9⟩ | ⟨g, cap, cur, hv, _⟩
      · exact absurd h9 h0
      · exact ⟨g, cap, hv⟩
    subst hv
    obtain ⟨hh, hg1, hg2⟩ := holds_own ho rfl
    have hcap : ks.length ≤ cap := by
      rcases ho.2 with ⟨h9, _⟩ | ⟨g', cap', cur, hv, _, _, h4, _⟩
      · cases h9
      · injection hv with _ _ hc; omega
    have HH := Lib.hid hh
    clear hk ho hb hh
    have hcon := AnyQ.slices_SortFunc_total Try.sortKey 2 HA.out HZ.out encC encC_len encC_one cmpK swoK 36 #[] g 0 cap ks.toArray w1 HE.out (fun _ _ _ _ x y => told1_any x y _) HH.out hg2 (by simp; omega) totK
    simp only [List.size_toArray] at hcon
    change Calls Try.prog 40 _ _ _ at hcon
    have HC := Lib.hid hcon
    clear hcon
    go_wp2_with fail
    refine HC.out.mono ?_
    rintro e w2 ⟨rfl, n2, os2, hw2⟩
    have ho2 : Only (fun k => k = g) w1 w2 := by rw [hw2]; exact only_sort
    have hp := List.mergeSort_perm ks (fun x y => !(ltOf cmpK) y x)
    have hh2 : HoldsK encC 2 w2 g 0 (ks.mergeSort fun x y => !(ltOf cmpK) y x).toArray := by
      rw [hw2]
      exact holdsK_sortWorldK_c encC 2 w1 g 0 ks.toArray _ n2 os2 HH.out hg2 (by simp)
    have hlen : (ks.mergeSort fun x y => !(ltOf cmpK) y x).length = ks.length := hp.length_eq
    have HR := Lib.hid (rows_holds hh2 hlen.symm hcap (by omega) (Nat.lt_of_lt_of_le hg2 ho2.size))
    have HB2 := Lib.hid (HB.out.trans (ho2.below HB.out.size (fun k hk e => by omega)))
    clear hw2 hh2 ho2 hp
    go_wp2_with fail
    go_ret
    exact ⟨_, _, rfl, HS.out, by rw [hlen]; exact hkl, HR.out, HB2.out⟩
end Go.Proofs.Ytimiehnknehagaa
