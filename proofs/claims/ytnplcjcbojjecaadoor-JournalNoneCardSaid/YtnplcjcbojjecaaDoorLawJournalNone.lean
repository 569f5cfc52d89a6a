/- A journal that nobody made has nothing; there is none on no disk, on one that is too small, or on one that nobody formatted. No condition. -/
import Derived.Test.YtnplcjcbojjecaaDoorRows
import Derived.Test.YtnplcjcbojjecaaDoorCards
import Derived.Test.YtnplcjcbojjecaaDoorTie
import Derived.Test.YtnplcjcbojjecaaDoorJoWakes
import Derived.ProofKit
import Derived.OpenShut
import Derived.ShutString
import Derived.Lay
import Derived.PinnedBridge
import Derived.SevenTiedAt
set_option linter.unusedSimpArgs false
set_option linter.unusedVariables false
namespace Go.Proofs.YtnplcjcbojjecaaDoor.journalNone
open Go.ChangeShapes Go.WideShapes Go.ChangeAt Go.RowKit
open Go.ChangeMaps (open_string shut_string)
theorem small6 (s : ByteArray) : formatF (dNew 6) s = (dNew 6, none, 1) := by
  unfold formatF
  rw [if_pos (by unfold jsize dNew; simp)]
theorem small9 : openF (dNew 9) = (none, 1) := by
  unfold openF
  rw [if_pos (by unfold jsize dNew; simp)]
theorem none8 (a : Nat) (ha : a < 8) : beginsF (dNew 8) a = (none, 0) := by
  have h0 : secNum zs = 0 := by have h := dNew_whole 8 0 (by simp [dNew]); rw [dNew_at (by omega), zs_tail] at h; exact h.symm
  unfold beginsF
  rw [if_neg (by simp [dNew]), dNew_at ha, h0, if_pos]
  left
  unfold readF
  rw [if_pos (.inl rfl)]
theorem open8 : openF (dNew 8) = (none, 11) := by
  unfold openF
  rw [if_neg (by unfold jsize dNew; simp), if_neg (by simp [dNew]), none8 0 (by omega), none8 1 (by omega)]; rfl
set_option maxRecDepth 100000 in
set_option maxHeartbeats 4000000 in
theorem walk (s : ByteArray) (hs : s.size ≤ maxLen) (w : World) : Calls Tryd.prog 10 #[.string s] w fun e w' => e = .returned (.bool true) ∧ Below w.heap.size w w' := by
  by_cases hbig : 20000 < s.size
  · have g1 : (20000 : Int) < (s.size : Int) := by omega
    go_enter Tryd.func10, Tryd.ntmps10
    go_wp2_with fail
    refine (wakes12_any _).mono ?_
    rintro e w8 ⟨rfl, hb8⟩
    go_wp2_with fail
    go_ret
    exact ⟨rfl, hb8⟩
  · have g1 : ¬ (20000 : Int) < (s.size : Int) := by omega
    have he : ByteArray.empty.toList = [] := by rw [Go.ByteArray.toList_eq]; rfl
    go_enter Tryd.func10, Tryd.ntmps10
    go_wp2_with fail
    refine (new_any 6 (by decide) (by decide) _).mono ?_
    rintro e w1 ⟨b6, m6, rfl, hd6, hb1, hl6, hm6⟩
    have HD6 := Lib.hid hd6
    have HB1 := Lib.hid hb1
    clear hd6 hb1
    go_wp2_with fail
    refine (new_any 9 (by decide) (by decide) _).mono ?_
    rintro e w2 ⟨b9, m9, rfl, hd9, hb2, hl9, hm9⟩
    have HD9 := Lib.hid hd9
    obtain ⟨l6, l6'⟩ := HD6.out.lt
    have HD6b := Lib.hid (HD6.out.only (Only.of_below (S := fun _ => False) hb2) (fun h => h) (fun h => h))
    have HB2 := Lib.hid (HB1.out.trans (hb2.mono HB1.out.size))
    have hz12 := hb2.size
    clear hd9 hb2
    go_wp2_with fail
    refine (new_any 8 (by decide) (by decide) _).mono ?_
    rintro e w3 ⟨b8, m8, rfl, hd8, hb3, hl8, hm8⟩
    have HD8 := Lib.hid hd8
    have HD6c := Lib.hid (HD6b.out.only (Only.of_below (S := fun _ => False) hb3) (fun h => h) (fun h => h))
    have HD9b := Lib.hid (HD9.out.only (Only.of_below (S := fun _ => False) hb3) (fun h => h) (fun h => h))
    have HB3 := Lib.hid (HB2.out.trans (hb3.mono HB2.out.size))
    clear hd8 hb3
    go_wp2_with fail
    refine (format_nil s _).mono ?_
    rintro e w4 ⟨rfl, hw4⟩
    have hw4 := hw4.symm
    subst hw4
    go_wp2_with fail
    refine (format_any b6 m6 (dNew 6) s _ HD6c.out).mono ?_
    rintro e w4 hp
    rw [small6] at hp
    obtain ⟨_, ho4, he4⟩ := hp
    have he4 : e = .returned (.tuple #[.pointer none, .int .i64 1]) := he4
    subst he4
    have HB4 := Lib.hid (HB3.out.trans (ho4.below HB3.out.size (fun k hk h => by rcases h with rfl | rfl <;> omega)))
    have HD9c := Lib.hid (HD9b.out.only ho4 (fun h => by rcases h with h | h <;> omega) (fun h => by rcases h with h | h <;> omega))
    have HD8b := Lib.hid (HD8.out.only ho4 (fun h => by rcases h with h | h <;> omega) (fun h => by rcases h with h | h <;> omega))
    clear ho4
    go_wp2_with fail
    refine (jopen_any b9 m9 (dNew 9) _ HD9c.out).mono ?_
    rintro e w5 hp
    rw [small9] at hp
    obtain ⟨hb5, he5⟩ := hp
    have he5 : e = .returned (.tuple #[.pointer none, .int .i64 1]) := he5
    subst he5
    have HB5 := Lib.hid (HB4.out.trans (hb5.mono HB4.out.size))
    have HD8c := Lib.hid (HD8b.out.only (Only.of_below (S := fun _ => False) hb5) (fun h => h) (fun h => h))
    clear hb5
    go_wp2_with fail
    refine (jopen_any b8 m8 (dNew 8) _ HD8c.out).mono ?_
    rintro e w6 hp
    rw [open8] at hp
    obtain ⟨hb6, he6⟩ := hp
    have he6 : e = .returned (.tuple #[.pointer none, .int .i64 11]) := he6
    subst he6
    have HB6 := Lib.hid (HB5.out.trans (hb6.mono HB5.out.size))
    clear hb6
    go_wp2_with fail
    refine (jbase_nil _).mono ?_
    rintro e w7 ⟨rfl, hw7⟩
    have hw7 := hw7.symm
    subst hw7
    go_wp2_with fail
    refine (jrecs_nil _).mono ?_
    rintro e w7 ⟨rfl, hw7⟩
    have hw7 := hw7.symm
    subst hw7
    go_wp2_with fail
    refine (jappend_nil s _).mono ?_
    rintro e w7 ⟨rfl, hw7⟩
    have hw7 := hw7.symm
    subst hw7
    go_wp2_with fail
    refine (jsave_nil s _).mono ?_
    rintro e w7 ⟨rfl, hw7⟩
    have hw7 := hw7.symm
    subst hw7
    go_wp2_with fail
    refine (jnext_nil _).mono ?_
    rintro e w7 ⟨rfl, hw7⟩
    have hw7 := hw7.symm
    subst hw7
    go_wp2_with fail
    refine (jleft_nil _).mono ?_
    rintro e w7 ⟨rfl, hw7⟩
    have hw7 := hw7.symm
    subst hw7
    go_wp2_with fail
    refine (wakes12_any _).mono ?_
    rintro e w8 ⟨rfl, hb8⟩
    have HB8 := Lib.hid (HB6.out.trans (hb8.mono HB6.out.size))
    clear hb8
    go_wp2_with fail
    go_ret
    exact ⟨rfl, HB8.out⟩
theorem own : ownKnob Tryd.prog.godebug = none := by kernel_rfl
theorem laidOut : laidOutB Tryd.prog = true := by kernel_rfl
set_option maxRecDepth 100000 in
theorem lifted (os : Os) (started : os.Started) (H : Type) (enc : TypeId × Value → H) :
    ReturnsInHanded {} Tryd.checked os 10 .any (fun w args => (Rows.journalNoneSpec.pre enc Tryd.prog Tryd.f10 [] false w args ∧ laidMetH Tryd.prog Rows.journalNoneRow.laid w) ∧ sizedMet enc Tryd.prog Tryd.f10 (OpenSpec.ofChange Rows.journalNoneSpec) false w args) (Rows.journalNoneSpec.post enc Tryd.prog Tryd.f10 false true false false) := by
  refine returnsInHanded_of_change_and (C := Tryd.checked) (X := fun w _ => laidMetH Tryd.prog Rows.journalNoneRow.laid w) (fun _ _ _ hh h => h.of_heap hh) own started (by kernel_rfl) Tryd.func10
    (ChangeSpec.witness_shaped (enc := enc) (C := Tryd.checked) (os := os) (X := fun w _ => laidMetH Tryd.prog Rows.journalNoneRow.laid w) false (World.laidAll Tryd.prog os Rows.journalNoneRow.laid) #[.string ByteArray.empty] 8 (World.laidAll_os _ _ _)
      (World.shaped_of_ZipB (by kernel_rfl) (by kernel_rfl)) (by kernel_rfl) (by kernel_rfl) (by kernel_rfl)
      (by rw [MakeChecks.laidMetH_plain _ _ _ (by kernel_rfl)]; exact laidMet_laidAll _ (by kernel_rfl) (by kernel_rfl))) ?_
  intro W base args ds gs before hval0 hW _ _ _hL _
  have hval : ∀ (j : Nat) t v, Tryd.f10.params[j]? = some t → args[j]? = some v → Value.okWide Tryd.prog W .any base t v := hval0
  have hW' := hW
  obtain ⟨p, q, hA0, hV, rfl, hfz, hnd⟩ := hW
  have hA : DataW.TrodAll enc Tryd.prog W 0 (fun _ => true) true Tryd.f10.params.toList args.toList ds p := hA0
  rw [Tryd.params10] at hA hval
  obtain ⟨v0, vs0, d0, ds0, p0, q0, hargs, rfl, rfl, h0, r0⟩ := trodAll_cons hA
  obtain ⟨rfl, rfl, rfl⟩ := trodAll_nil r0
  obtain rfl : args = #[v0] := by cases args; simp_all
  obtain ⟨rfl, rfl⟩ := trodVars_none hV
  have k0 := h0
  have lt0 : ∀ x ∈ p0, x.block < W.heap.size := by obtain ⟨m, hm⟩ := k0; exact DataW.trod_lt m _ _ _ hm
  obtain ⟨a0, rfl, e0, f0, w0⟩ := open_string Tryd.underlying9 (hval 0 9 v0 rfl rfl) h0
  clear hA0 hval0
  refine (walk a0 w0 W).mono fun e W' ⟨he, bel⟩ => ?_
  subst he
  exact ⟨_, rfl, _, _, _, [], _, [], hW', trodAll_mk1 (shut_bool Tryd.underlying4 _), (trodAll_cons_mk (Below.trod laidOut (by kernel_rfl) (of_decide_eq_true (by kernel_rfl)) k0 bel lt0) trodAll_mk0), rfl, bel.frame _, fun h => by cases h⟩
theorem over : Rows.journalNoneRow.holds Tryd.pinned (OpenSpec.ofChange Rows.journalNoneSpec) :=
  OpenClaim.holds_of_wide 10 Tryd.f10 rfl rfl rfl rfl rfl rfl rfl ⟨rfl, rfl, rfl, rfl, rfl⟩ rfl rfl rfl rfl rfl (by kernel_rfl) Tryd.func10 (by kernel_rfl)
    (of_decide_eq_true (by kernel_rfl)) (by unfold Func.isWrapper; first | (rw [if_pos (by decide +kernel)]; kernel_rfl) | (rw [if_neg (by decide +kernel)]; exact ⟨rfl, rfl⟩))
    (fun os started H enc _ => lifted os started H enc)
theorem proved : Rows.JournalNoneCardSaid :=
  Claim7.holds_tied_plain_at .later [] [.data, .pinned] true (true, "6877f7e2fb9e4bf04a3fec629da088c07fb68b4a07f79f772c5242f81ffe7e52") true over (fun _ h => by cases h) (by kernel_rfl) (fun _ h => by cases h) journalNone_row_tie rfl ⟨rfl, rfl⟩ (by kernel_rfl) rfl
    (fun f fn hf hfn => by
      obtain rfl : f = 10 := Option.some.inj ((show Tryd.prog.funcNamed Rows.journalNoneRow.func = some 10 by kernel_rfl).symm.trans hf) |>.symm
      obtain rfl : fn = Tryd.f10 := (Option.some.inj (Tryd.func10.symm.trans hfn)).symm
      exact ⟨by kernel_rfl, fun j t ht => by
        rw [Tryd.params10] at ht
        have hm : t ∈ [9] := by have h9 := Array.mem_of_getElem? ht; simp at h9 ⊢; omega
        have hall : ([9].all fun u => !Tryd.prog.wantsStandIn u) = true := by kernel_rfl
        exact (show Tryd.prog.wantsStandIn t = false by simpa using List.all_eq_true.1 hall t hm)⟩)
    (by kernel_rfl)
#print axioms proved
end Go.Proofs.YtnplcjcbojjecaaDoor.journalNone
