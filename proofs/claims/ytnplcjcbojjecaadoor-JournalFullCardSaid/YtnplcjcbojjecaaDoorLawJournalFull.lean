/- What does not go into the area is refused ahead of any write, and all that is there stays. No condition; a text longer than the statement's own limit asks the example alone. -/
import Derived.Test.YtnplcjcbojjecaaDoorRows
import Derived.Test.YtnplcjcbojjecaaDoorCards
import Derived.Test.YtnplcjcbojjecaaDoorTie
import Derived.Test.YtnplcjcbojjecaaDoorJoWakes
import Derived.ProofKit
import Derived.OpenShut
import Derived.ShutString
import Derived.Lay
import Derived.PinnedBridge
import Derived.SevenTiedAt
set_option linter.unusedSimpArgs false
set_option linter.unusedVariables false
namespace Go.Proofs.YtnplcjcbojjecaaDoor.journalFull
open Go.ChangeShapes Go.WideShapes Go.ChangeAt Go.RowKit
open Go.ChangeMaps (open_string shut_string)
theorem append_full {m : DM} {j : JM} (hj : j.dead = false) (s : ByteArray) (hs : s.size ≤ 60000) (hroom : jsize m < j.used + sizeN s.size) : appendF m j s = (m, j, 73) := by
  have h : j.may s ((jsize m : Int) - (j.used : Int)) = (0, 73) := by
    unfold JM.may fitsF
    rw [hj, if_neg (by simp), if_neg (by omega), if_pos (by omega)]
    dsimp only
    rw [if_neg (fun h => absurd h.1 (by decide))]
  unfold appendF
  rw [h, if_pos (show (73 : Int) ≠ 0 by decide)]
/-- What stands at the loop's head. -/
structure At (w : World) (b mb jb z : Nat) (i : Nat) (m : DM) (j : JM) (v : Value) (wr : World) : Prop where
  on : Loose m j 1
  md : m.dead = false
  ma : m.armed = false
  jd : j.dead = false
  jz : jsize m = z
  len : j.recs.length ≤ i
  wr0 : 0 ≤ m.writes
  wr1 : m.writes ≤ 10000 + 300 * i
  disk : DiskAt wr b mb m
  jo : JAt wr jb b v j
  jb0 : w.heap.size ≤ jb
  v0 : ∀ k, v.ownBlock = some k → w.heap.size ≤ k
  bel : Below w.heap.size w wr
theorem At.below {w : World} {b mb jb z i : Nat} {m : DM} {j : JM} {v : Value} {wr wr' : World} (h : At w b mb jb z i m j v wr) (hb : Below wr.heap.size wr wr') : At w b mb jb z i m j v wr' :=
  ⟨h.on, h.md, h.ma, h.jd, h.jz, h.len, h.wr0, h.wr1, h.disk.only (Only.of_below (S := fun _ => False) hb) (fun h => h) (fun h => h), h.jo.grown hb, h.jb0, h.v0, h.bel.trans (hb.mono h.bel.size)⟩
theorem At.succ {w : World} {b mb jb z i : Nat} {m : DM} {j : JM} {v : Value} {wr : World} (h : At w b mb jb z i m j v wr) : At w b mb jb z (i + 1) m j v wr :=
  ⟨h.on, h.md, h.ma, h.jd, h.jz, by have := h.len; omega, h.wr0, by have := h.wr1; omega, h.disk, h.jo, h.jb0, h.v0, h.bel⟩
theorem start (N : Nat) (h1 : 8 ≤ N) (h2 : N ≤ 46) (h3 : N % 2 = 0) : ∃ r, formatF (dNew N) ByteArray.empty = (r, some ⟨0, ByteArray.empty, [], 2, 1, false⟩, 0) ∧ r.dead = false ∧ r.armed = false ∧ jsize r = (N - 2) / 2 ∧ 0 ≤ r.writes ∧ r.writes ≤ 5000 ∧ Loose r ⟨0, ByteArray.empty, [], 2, 1, false⟩ 1 := by
  have hl : (dNew N).S.length = N := by simp [dNew]
  have hz : jsize (dNew N) = (N - 2) / 2 := by unfold jsize; rw [hl, if_neg (by omega)]
  have hs : sizeN ByteArray.empty.size = 1 := rfl
  have he : ByteArray.empty.size = 0 := rfl
  obtain ⟨r, f1, f2, f3, f4, f5, f6, _⟩ := format_law (dNew_wf (by omega) (by omega)) (by omega) rfl rfl ByteArray.empty (by omega) (by omega) (dNew_whole N) (by rw [dNew_top]; omega)
  rw [dNew_top, hs] at f1 f6
  have hw : (dNew N).writes = 0 := rfl
  have f5 := f5 (by rw [hw]; omega) (by rw [hw]; omega)
  rw [hw] at f5
  exact ⟨r, f1, f3, f4, by rw [same_size f2, hz], f5.1, by omega, f6.loose⟩
set_option maxRecDepth 100000 in
set_option maxHeartbeats 4000000 in
theorem walk (n : Int) (wn : Lit.wf (.int .u8 n) = true) (s : ByteArray) (hs : s.size ≤ maxLen) (w : World) : Calls Tryd.prog 8 #[.int .u8 n, .string s] w fun e w' => e = .returned (.bool true) ∧ Below w.heap.size w w' := by
  have hn : 0 ≤ n ∧ n ≤ 255 := by simpa [Lit.wf, IntKind.min, IntKind.max, IntKind.signed, IntKind.bits] using wn
  clear wn
  go_enter Tryd.func8, Tryd.ntmps8
  go_wp2_with fail
  obtain ⟨q, hq1, hq2⟩ : ∃ q : Nat, q < 20 ∧ (8 + 2 * (n % 20) : Int) = ((8 + 2 * q : Nat) : Int) := ⟨(n % 20).toNat, by omega, by omega⟩
  rw [hq2]
  obtain ⟨N, hN⟩ : ∃ N, N = 8 + 2 * q := ⟨_, rfl⟩
  rw [← hN]
  have hN1 : 8 ≤ N ∧ N ≤ 46 ∧ N % 2 = 0 := by omega
  clear hq1 hq2 hN
  refine (new_any N (by omega) (by omega) _).mono ?_
  rintro e w1 ⟨b, mb, rfl, hd1, hb1, hlb, hlmb⟩
  have HD1 := Lib.hid hd1
  have HB1 := Lib.hid hb1
  clear hd1 hb1
  by_cases hbig : 20000 < s.size
  · have g1 : (20000 : Int) < (s.size : Int) := by omega
    go_wp2_with fail
    refine (wakes12_any _).mono ?_
    rintro e w2 ⟨rfl, hb2⟩
    have HB2 := Lib.hid (HB1.out.trans (hb2.mono HB1.out.size))
    clear hb2
    go_wp2_with fail
    go_ret
    exact ⟨rfl, HB2.out⟩
  · have g1 : ¬ (20000 : Int) < (s.size : Int) := by omega
    obtain ⟨m0, p1, p2, p3, p4, p5, p6, p7⟩ := start N hN1.1 hN1.2.1 hN1.2.2
    have P1 := Lib.hid p1
    have P2 := Lib.hid p2
    have P3 := Lib.hid p3
    have P4 := Lib.hid p4
    have P56 := Lib.hid (And.intro p5 p6)
    have P7 := Lib.hid p7
    have HN := Lib.hid hN1
    have hn2 : Hid (∀ k, k < w.heap.size → ¬ own2 b mb k) := Lib.hid (fun k hk h => by rcases h with rfl | rfl <;> omega)
    clear p1 p2 p3 p4 p5 p6 p7 hN1
    go_wp2_with fail
    refine (format_any b mb (dNew N) ByteArray.empty _ HD1.out).mono ?_
    rintro e w2 hp
    rw [P1.out] at hp
    obtain ⟨hd2, ho2, jb, rfl, hj2, hlj⟩ := hp
    have HLJ := Lib.hid (Nat.le_trans HB1.out.size hlj)
    obtain ⟨z, hz⟩ : ∃ z, z = jsize m0 := ⟨_, rfl⟩
    have HA := Lib.hid (show At w b mb jb z 0 m0 _ _ w2 from ⟨P7.out, P2.out, P3.out, rfl, hz.symm, Nat.zero_le _, P56.out.1, by have := P56.out.2; omega, hd2, hj2, HLJ.out, (fun k hk => by cases hk), HB1.out.trans (ho2.below HB1.out.size hn2.out)⟩)
    have hzb : z ≤ 22 := by rw [hz, P4.out]; have := HN.out; omega
    clear hd2 ho2 hj2 hlj hz
    dsimp only
    go_wp2_with fail
    go_loopw [9, 10] (fun x y wr => ∃ (i : Nat) (m : DM) (j : JM) (v : Value), i ≤ 60 ∧ y = .int .i64 i ∧ x = .int .i64 j.recs.length ∧ At w b mb jb z i m j v wr) (fun _ y _ => 60 - (intOf y).toNat)
    case atStart => exact ⟨0, _, _, _, by omega, rfl, rfl, HA.out⟩
    case round =>
      obtain ⟨i, m, j, v, hi, rfl, rfl, hA⟩ := hrel
      have HA := Lib.hid hA
      have hu : j.used ≤ z := by rw [← hA.jz]; exact hA.on.on.room
      have hnx : j.next ≤ 62 := by have := hA.on.on.next; have := hA.len; omega
      have hln : j.recs.length ≤ 60 := by have := hA.len; omega
      have hwr := hA.wr0
      have hwr2 := hA.wr1
      have hsz := sizeN_le (k := s.size) (by omega)
      clear hA
      by_cases hlt : i < 60
      · have g2 : (i : Int) < 60 := by omega
        go_wp2_with fail
        refine (jleft_any jb b mb v j m _ HA.out.jo HA.out.disk).mono ?_
        rintro e w3 ⟨rfl, hb3⟩
        have HA3 := Lib.hid (HA.out.below hb3)
        clear hb3
        rw [HA3.out.jz]
        go_wp2_with fail
        refine (writes_any b mb m _ HA3.out.disk).mono ?_
        rintro e w4 ⟨rfl, hw4⟩
        have hw4 := hw4.symm
        subst hw4
        go_wp2_with fail
        refine (append_any b mb jb m v j s _ HA3.out.disk HA3.out.jo (by omega)).mono ?_
        rintro e w4 hp
        unfold OpPost at hp
        have hbel : ∀ k, k < w.heap.size → ¬ (own2 b mb k ∨ k = jb ∨ v.ownBlock = some k) := fun k hk h => by
          rcases h with h | h | h
          · exact hn2.out k hk h
          · have := HA3.out.jb0; omega
          · have := HA3.out.v0 k h; omega
        by_cases hfit : j.used + sizeN s.size ≤ z
        · obtain ⟨r, hf, hl, hw, hd', ha', hwr', hon, hall, _⟩ := append_goes HA3.out.on HA3.out.md HA3.out.ma HA3.out.jd s (by omega) (by rw [HA3.out.jz]; exact hfit) (by omega)
          rw [hf] at hp
          obtain ⟨rfl, hd4, ho4, v4, hj4, hv4⟩ := hp
          have hwr3 : r.writes = m.writes + sizeN s.size := hwr' (by omega) (by omega)
          have HWR3 := Lib.hid hwr3
          obtain ⟨j4, hj4e⟩ : ∃ j4 : JM, j4 = { j with recs := j.recs ++ [s], next := j.next + 1, used := j.used + sizeN s.size } := ⟨_, rfl⟩
          dsimp only at hj4
          rw [← hj4e] at hj4 hon
          have hlen4 : j4.recs.length = j.recs.length + 1 := by rw [hj4e]; exact List.length_append.trans rfl
          have hus4 : j4.used = j.used + sizeN s.size := by rw [hj4e]
          have hnx4 : j4.next = j.next + 1 := by rw [hj4e]
          have hjd4 : j4.dead = false := by rw [hj4e]; exact HA3.out.jd
          have HA4 := Lib.hid (show At w b mb jb z (i + 1) r j4 v4 w4 from ⟨⟨hon, fun k hk => by have := hall k (by omega); omega⟩, hd', ha', hjd4, by rw [same_size hl]; exact HA3.out.jz,
            by have := HA3.out.len; omega, by omega, by omega, hd4, hj4, HA3.out.jb0, (fun k hk => by
              rcases hv4 k hk with h | h
              · exact HA3.out.v0 k h
              · exact Nat.le_trans HA3.out.bel.size h), HA3.out.bel.trans (ho4.below HA3.out.bel.size hbel)⟩)
          have HL4 := Lib.hid hlen4
          have HU4 := Lib.hid hus4
          have u1 : (sizeN s.size : Int) ≤ (z : Int) - (j.used : Int) := by omega
          clear hf hl hw hd' ha' hwr' hon hall hd4 ho4 hj4 hv4 hwr3 hj4e hbel hlen4 hus4 hnx4 hjd4
          dsimp only
          go_wp2_with fail
          refine (rfSize_any (s.size : Int) _).mono ?_
          rintro e w5 ⟨rfl, hw5⟩
          have hw5 := hw5.symm
          subst hw5
          rw [sizeF_nat (by omega)]
          go_wp2_with fail
          refine (jleft_any jb b mb v4 j4 r _ HA4.out.jo HA4.out.disk).mono ?_
          rintro e w5 ⟨rfl, hb5⟩
          have HA5 := Lib.hid (HA4.out.below hb5)
          clear hb5
          rw [HA5.out.jz, show (z : Int) - (j4.used : Int) = (z : Int) - (j.used : Int) - (sizeN s.size : Int) by have := HU4.out; omega]
          go_wp2_with fail
          refine (writes_any b mb r _ HA5.out.disk).mono ?_
          rintro e w6 ⟨rfl, hw6⟩
          have hw6 := hw6.symm
          subst hw6
          rw [HWR3.out]
          go_wp2_with fail
          go_roundw
          case rel => exact ⟨i + 1, r, j4, v4, by omega, by go_num, by rw [HL4.out]; go_num, HA5.out⟩
          case measure => simp [intOf]; omega
        · have hf := append_full HA3.out.jd s (by omega) (by rw [HA3.out.jz]; omega)
          rw [hf] at hp
          obtain ⟨rfl, hd4, ho4, v4, hj4, hv4⟩ := hp
          have HA4 := Lib.hid (show At w b mb jb z (i + 1) m j v4 w4 from ⟨HA3.out.on, HA3.out.md, HA3.out.ma, HA3.out.jd, HA3.out.jz,
            by have := HA3.out.len; omega, HA3.out.wr0, by omega, hd4, hj4, HA3.out.jb0, (fun k hk => by
              rcases hv4 k hk with h | h
              · exact HA3.out.v0 k h
              · exact Nat.le_trans HA3.out.bel.size h), HA3.out.bel.trans (ho4.below HA3.out.bel.size hbel)⟩)
          have u1 : ¬ (sizeN s.size : Int) ≤ (z : Int) - (j.used : Int) := by omega
          clear hf hd4 ho4 hj4 hv4 hbel
          dsimp only
          go_wp2_with fail
          refine (rfSize_any (s.size : Int) _).mono ?_
          rintro e w5 ⟨rfl, hw5⟩
          have hw5 := hw5.symm
          subst hw5
          rw [sizeF_nat (by omega)]
          go_wp2_with fail
          refine (writes_any b mb m _ HA4.out.disk).mono ?_
          rintro e w6 ⟨rfl, hw6⟩
          have hw6 := hw6.symm
          subst hw6
          go_wp2_with fail
          go_roundw
          case rel => exact ⟨i + 1, m, j, v4, by omega, by go_num, rfl, HA4.out⟩
          case measure => simp [intOf]; omega
      · have g2 : ¬ (i : Int) < 60 := by omega
        go_wp2_with fail
        refine (jrecords_any jb b v j _ HA.out.jo).mono ?_
        rintro e w3 ⟨v3, rfl, hs3, _, hb3⟩
        have HB3 := Lib.hid (HA.out.bel.trans (hb3.mono HA.out.bel.size))
        obtain ⟨a3, c3, rfl, _, _⟩ := hs3.out
        clear hb3 hs3
        go_wp2_with fail
        refine (wakes12_any _).mono ?_
        rintro e w4 ⟨rfl, hb4⟩
        have HB4 := Lib.hid (HB3.out.trans (hb4.mono HB3.out.size))
        clear hb4
        go_wp2_with fail
        go_ret
        exact ⟨rfl, HB4.out⟩
theorem own : ownKnob Tryd.prog.godebug = none := by kernel_rfl
theorem laidOut : laidOutB Tryd.prog = true := by kernel_rfl
set_option maxRecDepth 100000 in
theorem lifted (os : Os) (started : os.Started) (H : Type) (enc : TypeId × Value → H) :
    ReturnsInHanded {} Tryd.checked os 8 .any (fun w args => (Rows.journalFullSpec.pre enc Tryd.prog Tryd.f8 [] false w args ∧ laidMetH Tryd.prog Rows.journalFullRow.laid w) ∧ sizedMet enc Tryd.prog Tryd.f8 (OpenSpec.ofChange Rows.journalFullSpec) false w args) (Rows.journalFullSpec.post enc Tryd.prog Tryd.f8 false true false false) := by
  refine returnsInHanded_of_change_and (C := Tryd.checked) (X := fun w _ => laidMetH Tryd.prog Rows.journalFullRow.laid w) (fun _ _ _ hh h => h.of_heap hh) own started (by kernel_rfl) Tryd.func8
    (ChangeSpec.witness_shaped (enc := enc) (C := Tryd.checked) (os := os) (X := fun w _ => laidMetH Tryd.prog Rows.journalFullRow.laid w) false (World.laidAll Tryd.prog os Rows.journalFullRow.laid) #[.int .u8 0, .string ByteArray.empty] 8 (World.laidAll_os _ _ _)
      (World.shaped_of_ZipB (by kernel_rfl) (by kernel_rfl)) (by kernel_rfl) (by kernel_rfl) (by kernel_rfl)
      (by rw [MakeChecks.laidMetH_plain _ _ _ (by kernel_rfl)]; exact laidMet_laidAll _ (by kernel_rfl) (by kernel_rfl))) ?_
  intro W base args ds gs before hval0 hW _ _ _hL _
  have hval : ∀ (j : Nat) t v, Tryd.f8.params[j]? = some t → args[j]? = some v → Value.okWide Tryd.prog W .any base t v := hval0
  have hW' := hW
  obtain ⟨p, q, hA0, hV, rfl, hfz, hnd⟩ := hW
  have hA : DataW.TrodAll enc Tryd.prog W 0 (fun _ => true) true Tryd.f8.params.toList args.toList ds p := hA0
  rw [Tryd.params8] at hA hval
  obtain ⟨v0, vs0, d0, ds0, p0, q0, hargs, rfl, rfl, h0, r0⟩ := trodAll_cons hA
  obtain ⟨v1, vs1, d1, ds1, p1, q1, rfl, rfl, rfl, h1, r1⟩ := trodAll_cons r0
  obtain ⟨rfl, rfl, rfl⟩ := trodAll_nil r1
  obtain rfl : args = #[v0, v1] := by cases args; simp_all
  obtain ⟨rfl, rfl⟩ := trodVars_none hV
  have k0 := h0
  have lt0 : ∀ x ∈ p0, x.block < W.heap.size := by obtain ⟨m, hm⟩ := k0; exact DataW.trod_lt m _ _ _ hm
  have k1 := h1
  have lt1 : ∀ x ∈ p1, x.block < W.heap.size := by obtain ⟨m, hm⟩ := k1; exact DataW.trod_lt m _ _ _ hm
  obtain ⟨a0, rfl, e0, f0, w0⟩ := open_int Tryd.underlying5 (hval 0 5 v0 rfl rfl) h0
  obtain ⟨a1, rfl, e1, f1, w1⟩ := open_string Tryd.underlying9 (hval 1 9 v1 rfl rfl) h1
  clear hA0 hval0
  refine (walk a0 w0 a1 w1 W).mono fun e W' ⟨he, bel⟩ => ?_
  subst he
  exact ⟨_, rfl, _, _, _, [], _, [], hW', trodAll_mk1 (shut_bool Tryd.underlying4 _), (trodAll_cons_mk (Below.trod laidOut (by kernel_rfl) (of_decide_eq_true (by kernel_rfl)) k0 bel lt0) (trodAll_cons_mk (Below.trod laidOut (by kernel_rfl) (of_decide_eq_true (by kernel_rfl)) k1 bel lt1) trodAll_mk0)), rfl, bel.frame _, fun h => by cases h⟩
theorem over : Rows.journalFullRow.holds Tryd.pinned (OpenSpec.ofChange Rows.journalFullSpec) :=
  OpenClaim.holds_of_wide 8 Tryd.f8 rfl rfl rfl rfl rfl rfl rfl ⟨rfl, rfl, rfl, rfl, rfl⟩ rfl rfl rfl rfl rfl (by kernel_rfl) Tryd.func8 (by kernel_rfl)
    (of_decide_eq_true (by kernel_rfl)) (by unfold Func.isWrapper; first | (rw [if_pos (by decide +kernel)]; kernel_rfl) | (rw [if_neg (by decide +kernel)]; exact ⟨rfl, rfl⟩))
    (fun os started H enc _ => lifted os started H enc)
theorem proved : Rows.JournalFullCardSaid :=
  Claim7.holds_tied_plain_at .later [] [.data, .pinned] true (true, "6877f7e2fb9e4bf04a3fec629da088c07fb68b4a07f79f772c5242f81ffe7e52") true over (fun _ h => by cases h) (by kernel_rfl) (fun _ h => by cases h) journalFull_row_tie rfl ⟨rfl, rfl⟩ (by kernel_rfl) rfl
    (fun f fn hf hfn => by
      obtain rfl : f = 8 := Option.some.inj ((show Tryd.prog.funcNamed Rows.journalFullRow.func = some 8 by kernel_rfl).symm.trans hf) |>.symm
      obtain rfl : fn = Tryd.f8 := (Option.some.inj (Tryd.func8.symm.trans hfn)).symm
      exact ⟨by kernel_rfl, fun j t ht => by
        rw [Tryd.params8] at ht
        have hm : t ∈ [5, 9] := by have h9 := Array.mem_of_getElem? ht; simp at h9 ⊢; omega
        have hall : ([5, 9].all fun u => !Tryd.prog.wantsStandIn u) = true := by kernel_rfl
        exact (show Tryd.prog.wantsStandIn t = false by simpa using List.all_eq_true.1 hall t hm)⟩)
    (by kernel_rfl)
#print axioms proved
end Go.Proofs.YtnplcjcbojjecaaDoor.journalFull
