/- Of a write that a crash cut the first bytes are the new ones, all others the old ones; no other sector changed. No condition: every one of the six bytes is covered. -/
import Derived.Test.YtcienfbkcfhfcaaRows
import Derived.Test.YtcienfbkcfhfcaaDiskTornPlain
import Derived.Test.YtcienfbkcfhfcaaKinds11
import Derived.ProofKit
import Derived.OpenShut
import Derived.ShutString
import Derived.ChangeOld
import Derived.Below
set_option linter.unusedSimpArgs false
set_option linter.unusedVariables false
namespace Go.Proofs.Ytcienfbkcfhfcaa.diskTorn
open Go.ChangeShapes Go.WideShapes Go.ChangeAt Go.RowKit
open Go.ChangeMaps (open_string shut_string)
def kU8 : Kd Try.prog 5 Int := Kd.int Try.underlying5 (by kernel_rfl)
def k3 : Kd Try.prog 58 (List Int) := Kd.arr Try.underlying58 kU8 3 (by kernel_rfl)
theorem u8_of {n : Int} (h : (Lit.int .u8 n).wf = true) : ∃ b : UInt8, n = (b.toNat : Int) := by
  have h : 0 ≤ n ∧ n ≤ 255 := by simpa [Lit.wf, IntKind.min, IntKind.max, IntKind.signed, IntKind.bits] using h
  refine ⟨UInt8.ofNat n.toNat, ?_⟩
  rw [UInt8.toNat_ofNat']; omega
theorem k3_cells {w : World} {l : List Int} {cs : Array Value} (h : k3.R w l cs.toList) : ∃ a b c : UInt8, cs = #[.int .u8 (a.toNat : Int), .int .u8 (b.toNat : Int), .int .u8 (c.toNat : Int)] := by
  obtain ⟨hl, h3, h⟩ := h
  obtain ⟨cs⟩ := cs
  match l, h3 with
  | [a, b, c], _ =>
    match cs, hl with
    | [c0, c1, c2], _ =>
      have h0 := h 0 a rfl
      have h1 := h 1 b rfl
      have h2 := h 2 c rfl
      simp [kU8, Kd.int] at h0 h1 h2
      obtain ⟨h0, w0⟩ := h0
      obtain ⟨h1, w1⟩ := h1
      obtain ⟨h2, w2⟩ := h2
      obtain ⟨a, rfl⟩ := u8_of w0
      obtain ⟨b, rfl⟩ := u8_of w1
      obtain ⟨c, rfl⟩ := u8_of w2
      exact ⟨a, b, c, by rw [h0, h1, h2]⟩
/-- All that the walk keeps: the disk, the three bytes, and that only new memory is another. -/
structure St (w0 w : World) (b mb : Nat) (m : DM) (cf : Array Value) : Prop where
  bel : Below w0.heap.size w0 w
  disk : DiskAt w b mb m
  blk : Blk w (w0.heap.size + 1) cf 58
  b1 : w0.heap.size + 2 ≤ b
  b2 : w0.heap.size + 2 ≤ mb
theorem St.grow {w0 w w' : World} {b mb : Nat} {m : DM} {cf : Array Value} (h : St w0 w b mb m cf) (hb : Below w.heap.size w w') : St w0 w' b mb m cf :=
  ⟨h.bel.trans (hb.mono h.bel.size), h.disk.grown hb, h.blk.below hb h.blk.lt, h.b1, h.b2⟩
theorem St.only {w0 w w' : World} {b mb : Nat} {m m' : DM} {cf : Array Value} (h : St w0 w b mb m cf) (hd : DiskAt w' b mb m') (ho : Only (own2 b mb) w w') : St w0 w' b mb m' cf :=
  have h1 := h.b1
  have h2 := h.b2
  ⟨h.bel.trans (ho.below h.bel.size (fun k hk e => by rcases e with rfl | rfl <;> omega)), hd, ho.blk h.blk (fun e => by rcases e with e | e <;> omega), h1, h2⟩
set_option maxRecDepth 100000 in
set_option maxHeartbeats 2000000 in
theorem walk (w : World) (cw : Array Value) (lw : List Int) (hw : k3.R w lw cw.toList) (cf : Array Value) (lf : List Int) (hf : k3.R w lf cf.toList) :
    Calls Try.prog 8 #[.agg cw, .agg cf] w fun e w' => e = .returned (.bool true) ∧ Below w.heap.size w w' := by
  obtain ⟨n, p, a, rfl⟩ := k3_cells hw
  obtain ⟨f0, f1, f2, rfl⟩ := k3_cells hf
  clear hw hf
  go_enter Try.func8, Try.ntmps8
  go_wp2_with fail
  have hc : ∀ i v, (#[Value.int .u8 (n.toNat : Int), Value.int .u8 (p.toNat : Int), Value.int .u8 (a.toNat : Int)] : Array Value)[i]? = some v → ((w.alloc (.cells #[.int .u8 (n.toNat : Int), .int .u8 (p.toNat : Int), .int .u8 (a.toNat : Int)] 58)).alloc (.cells #[.int .u8 (f0.toNat : Int), .int .u8 (f1.toNat : Int), .int .u8 (f2.toNat : Int)] 58)).cell? ⟨w.heap.size, i, none⟩ = some v :=
    fun i v hv => (((Blk.new w _ _).alloc _).cell i).trans hv
  have hfb := Blk.new' (w.alloc (.cells #[.int .u8 (n.toNat : Int), .int .u8 (p.toNat : Int), .int .u8 (a.toNat : Int)] 58)) #[.int .u8 (f0.toNat : Int), .int .u8 (f1.toNat : Int), .int .u8 (f2.toNat : Int)] 58 (n := w.heap.size + 1) (by simp)
  have hb0 : Below w.heap.size w ((w.alloc (.cells #[.int .u8 (n.toNat : Int), .int .u8 (p.toNat : Int), .int .u8 (a.toNat : Int)] 58)).alloc (.cells #[.int .u8 (f0.toNat : Int), .int .u8 (f1.toNat : Int), .int .u8 (f2.toNat : Int)] 58)) := ((Below.refl _ _).alloc (Nat.le_refl _) _).alloc (by simp) _
  have hsz : w.heap.size + 2 ≤ ((w.alloc (.cells #[.int .u8 (n.toNat : Int), .int .u8 (p.toNat : Int), .int .u8 (a.toNat : Int)] 58)).alloc (.cells #[.int .u8 (f0.toNat : Int), .int .u8 (f1.toNat : Int), .int .u8 (f2.toNat : Int)] 58)).heap.size := by simp
  have c0 := hc 0 _ rfl
  have c1 := hc 1 _ rfl
  have c2 := hc 2 _ rfl
  clear hc
  revert hfb hb0 hsz c0 c1 c2
  generalize (w.alloc (.cells #[.int .u8 (n.toNat : Int), .int .u8 (p.toNat : Int), .int .u8 (a.toNat : Int)] 58)).alloc (.cells #[.int .u8 (f0.toNat : Int), .int .u8 (f1.toNat : Int), .int .u8 (f2.toNat : Int)] 58) = w2
  intro hfb hb0 hsz c0 c1 c2
  refine wp_region_held_drew (S := fun w' => w'.cell? ⟨w.heap.size, 0, none⟩ = some (.int .u8 (n.toNat : Int)) ∧ w'.cell? ⟨w.heap.size, 1, none⟩ = some (.int .u8 (p.toNat : Int)) ∧ w'.cell? ⟨w.heap.size, 2, none⟩ = some (.int .u8 (a.toNat : Int))) (by kernel_rfl) ?_ (fun hHeld => ?_)
  · exact ⟨c0, c1, c2⟩
  refine take_op 0 (some 21) (v := ?_) rfl rfl (by kernel_rfl) (by kernel_rfl) (by kernel_rfl) (fun _ _ _ h => h) (Or.inl ⟨by rfl, ?_⟩) (by assumption) ?_
  rotate_left
  · intro w_ hSw_; (try dsimp only at hSw_); go_simp; (try with_reducible rfl)
  try simp only [Act.put, List.setIfInBounds_toArray, List.set_cons_zero, List.set_cons_succ]
  refine take_op 1 (some 22) (v := ?_) rfl rfl (by kernel_rfl) (by kernel_rfl) (by kernel_rfl) (fun _ _ _ h => h) (Or.inl ⟨by rfl, ?_⟩) (by assumption) ?_
  rotate_left
  · intro w_ hSw_; (try dsimp only at hSw_); go_simp; (try with_reducible rfl)
  try simp only [Act.put, List.setIfInBounds_toArray, List.set_cons_zero, List.set_cons_succ]
  refine take_op 2 (some 23) (v := ?_) rfl rfl (by kernel_rfl) (by kernel_rfl) (by kernel_rfl) (fun _ _ _ h => h) (Or.inl ⟨by rfl, ?_⟩) (by assumption) ?_
  rotate_left
  · intro w_ hSw_; (try dsimp only at hSw_); go_simp; (try with_reducible rfl)
  try simp only [Act.put, List.setIfInBounds_toArray, List.set_cons_zero, List.set_cons_succ]
  refine take_op 3 (some 24) (v := ?_) rfl rfl (by kernel_rfl) (by kernel_rfl) (by kernel_rfl) (fun _ _ _ h => h) (Or.inl ⟨by rfl, ?_⟩) (by assumption) ?_
  rotate_left
  · intro w_ hSw_; (try dsimp only at hSw_); go_simp; (try with_reducible rfl)
  try simp only [Act.put, List.setIfInBounds_toArray, List.set_cons_zero, List.set_cons_succ]
  refine take_op 4 (some 25) (v := ?_) rfl rfl (by kernel_rfl) (by kernel_rfl) (by kernel_rfl) (fun _ _ _ h => h) (Or.inl ⟨by rfl, ?_⟩) (by assumption) ?_
  rotate_left
  · intro w_ hSw_; (try dsimp only at hSw_); go_simp; (try with_reducible rfl)
  try simp only [Act.put, List.setIfInBounds_toArray, List.set_cons_zero, List.set_cons_succ]
  refine take_op 5 (some 26) (v := ?_) rfl rfl (by kernel_rfl) (by kernel_rfl) (by kernel_rfl) (fun _ _ _ h => h) (Or.inl ⟨by rfl, ?_⟩) (by assumption) ?_
  rotate_left
  · intro w_ hSw_; (try dsimp only at hSw_); go_simp; (try with_reducible rfl)
  try simp only [Act.put, List.setIfInBounds_toArray, List.set_cons_zero, List.set_cons_succ]
  refine take_op 6 (some 5) (v := ?_) rfl rfl (by kernel_rfl) (by kernel_rfl) (by kernel_rfl) (fun _ _ _ h => h) (Or.inl ⟨by rfl, ?_⟩) (by assumption) ?_
  rotate_left
  · intro w_ hSw_; (try dsimp only at hSw_); go_simp; (try with_reducible rfl)
  try simp only [Act.put, List.setIfInBounds_toArray, List.set_cons_zero, List.set_cons_succ]
  refine take_op 7 (some 6) (v := ?_) rfl rfl (by kernel_rfl) (by kernel_rfl) (by kernel_rfl) (fun _ _ _ h => h) (Or.inl ⟨by rfl, ?_⟩) (by assumption) ?_
  rotate_left
  · intro w_ hSw_; (try dsimp only at hSw_); go_simp; (try with_reducible rfl)
  try simp only [Act.put, List.setIfInBounds_toArray, List.set_cons_zero, List.set_cons_succ]
  refine take_op 8 (some 7) (v := ?_) rfl rfl (by kernel_rfl) (by kernel_rfl) (by kernel_rfl) (fun _ _ _ h => h) (Or.inl ⟨by rfl, ?_⟩) (by assumption) ?_
  rotate_left
  · intro w_ hSw_; (try dsimp only at hSw_); go_simp; (try with_reducible rfl)
  try simp only [Act.put, List.setIfInBounds_toArray, List.set_cons_zero, List.set_cons_succ]
  refine wpAnyH_done (by kernel_rfl) ?_ _
  clear hHeld c0 c1 c2
  have hn := n.toNat_lt
  have hp := p.toNat_lt
  have ha := a.toNat_lt
  generalize n.toNat = n at *
  generalize p.toNat = p at *
  generalize a.toNat = a at *
  go_wp2_with fail
  refine (new_any 8 (by decide) (by decide) _).mono ?_
  rintro e w3 ⟨b, mb, rfl, hd3, hb3, hg1, hg2⟩
  have hsz3 : w2.drew.heap.size = w2.heap.size := rfl
  have hs0 : St w w3 b mb (dNew 8) #[.int .u8 (f0.toNat : Int), .int .u8 (f1.toNat : Int), .int .u8 (f2.toNat : Int)] :=
    ⟨(hb0.drew).trans (hb3.mono (by omega)), hd3, hfb.drew.below hb3 hfb.drew.lt, by omega, by omega⟩
  have HS0 := Lib.hid hs0
  clear hs0 hd3 hb3 hg1 hg2 hsz3 hfb hb0 hsz
  go_wp2_with fail
  obtain ⟨k, hk, hke⟩ : ∃ k : Nat, k ≤ 5 ∧ (n : Int) % 6 = k := ⟨n % 6, by omega, by omega⟩
  obtain ⟨i, hi, hie⟩ : ∃ i : Nat, i < 8 ∧ (a : Int) % 8 = i := ⟨a % 8, by omega, by omega⟩
  rw [hke, hie]
  clear hke hie hn ha
  have hc := Lib.hid (fun (w' : World) (m : DM) (hs : St w w' b mb m #[.int .u8 (f0.toNat : Int), .int .u8 (f1.toNat : Int), .int .u8 (f2.toNat : Int)]) =>
    (⟨hs.blk.cell 0, hs.blk.cell 1, hs.blk.cell 2⟩ : w'.cell? ⟨w.heap.size + 1, 0, none⟩ = some (.int .u8 (f0.toNat : Int)) ∧ w'.cell? ⟨w.heap.size + 1, 1, none⟩ = some (.int .u8 (f1.toNat : Int)) ∧ w'.cell? ⟨w.heap.size + 1, 2, none⟩ = some (.int .u8 (f2.toNat : Int))))
  go_loopw [13] (fun v wr => ∃ (j : Nat) (m : DM), j ≤ 8 ∧ v = .int .i64 j ∧ T1 f0 m j ∧ St w wr b mb m #[.int .u8 (f0.toNat : Int), .int .u8 (f1.toNat : Int), .int .u8 (f2.toNat : Int)]) (fun v _ => 8 - (intOf v).toNat)
  case atStart => exact ⟨0, dNew 8, by omega, rfl, T1.zero f0, HS0.out⟩
  case round =>
    clear HS0
    obtain ⟨j, m, hj, rfl, hT, hS⟩ := hrel
    obtain ⟨x0, x1, x2⟩ := hc.out _ _ hS
    have HT := Lib.hid hT
    have HS := Lib.hid hS
    clear hT hS
    by_cases hlt : j < 8
    · go_wp2_with fail
      refine (block_any f0 _).mono ?_
      rintro e w4 ⟨rfl, hb4⟩
      go_wp2_with fail
      have hs4 := Lib.hid (HS.out.grow hb4)
      refine (write_any b mb m j (blkB f0) w4 hs4.out.disk (by rw [blkB_size]; decide)).mono ?_
      rintro e w5 ⟨rfl, hd5, ho5⟩
      obtain ⟨hz, hT5⟩ := HT.out.step hlt
      rw [hz]
      have hs5 := hs4.out.only hd5 ho5
      have HS5 := Lib.hid hs5
      have HT5 := Lib.hid hT5
      clear hs5 hT5 hd5 ho5 hz x0 x1 x2
      go_wp2_with fail
      go_roundw
      case rel => exact ⟨j + 1, _, by omega, by go_num, HT5.out, HS5.out⟩
      case measure => simp [intOf]; omega
    · have hj8 : j = 8 := by omega
      subst hj8
      clear hlt hj
      obtain ⟨hz, hT2⟩ := T2.zero (f0 := f0) f1 (i := i) (k := k) (p := p) HT.out hk (by omega)
      go_wp2_with fail
      refine (arm_any b mb m k p wr HS.out.disk).mono ?_
      rintro e w4 ⟨rfl, hd4, ho4⟩
      rw [hz]
      have HS4 := Lib.hid (HS.out.only hd4 ho4)
      have HT4 := Lib.hid hT2
      clear hz hT2 hd4 ho4 HS HT x0 x1 x2
      generalize (m.arm (k : Int) (p : Int)).1 = m4 at HS4 HT4
      go_wp2_with fail
      go_loopw [14] (fun v wr => ∃ (j : Nat) (m : DM), j ≤ k ∧ v = .int .i64 j ∧ T2 f0 f1 i k p m j ∧ St w wr b mb m #[.int .u8 (f0.toNat : Int), .int .u8 (f1.toNat : Int), .int .u8 (f2.toNat : Int)]) (fun v _ => k - (intOf v).toNat)
      case atStart => exact ⟨0, m4, by omega, rfl, HT4.out, HS4.out⟩
      case round =>
        clear HS4 HT4 m4 m
        obtain ⟨j, m, hj, rfl, hT, hS⟩ := hrel
        obtain ⟨x0, x1, x2⟩ := hc.out _ _ hS
        have HT := Lib.hid hT
        have HS := Lib.hid hS
        clear hT hS
        by_cases hlt : j < k
        · go_wp2_with fail
          refine (block_any f1 _).mono ?_
          rintro e w4 ⟨rfl, hb4⟩
          go_wp2_with fail
          have hrem : ((i : Int) + 1 + j) % 8 = (((i + 1 + j) % 8 : Nat) : Int) := by omega
          rw [hrem]
          have hs4 := Lib.hid (HS.out.grow hb4)
          refine (write_any b mb m _ (blkB f1) w4 hs4.out.disk (by rw [blkB_size]; decide)).mono ?_
          rintro e w5 ⟨rfl, hd5, ho5⟩
          obtain ⟨hz, hT5⟩ := HT.out.step hlt hk
          rw [hz]
          have hs5 := hs4.out.only hd5 ho5
          have HS5 := Lib.hid hs5
          have HT5 := Lib.hid hT5
          clear hs5 hT5 hd5 ho5 hz x0 x1 x2 hrem
          go_wp2_with fail
          go_roundw
          case rel => exact ⟨j + 1, _, by omega, by go_num, HT5.out, HS5.out⟩
          case measure => simp [intOf]; omega
        · have hjk : k = j := by omega
          subst hjk
          clear hlt hj
          obtain ⟨hz, hT3⟩ := T3.of f2 HT.out hi
          go_wp2_with fail
          refine (block_any f2 _).mono ?_
          rintro e w4 ⟨rfl, hb4⟩
          go_wp2_with fail
          have HS4 := Lib.hid (HS.out.grow hb4)
          refine (write_any b mb m i (blkB f2) w4 HS4.out.disk (by rw [blkB_size]; decide)).mono ?_
          rintro e w5 ⟨rfl, hd5, ho5⟩
          rw [hz]
          have HS5 := Lib.hid (HS4.out.only hd5 ho5)
          have HT5 := Lib.hid hT3
          clear hz hT3 hd5 ho5 HS4 HT HS x0 x1 x2 hb4
          generalize (m.write (i : Int) (blkB f2)).1 = m5 at HS5 HT5
          clear m
          obtain ⟨x0, x1, x2⟩ := hc.out _ _ HS5.out
          go_wp2_with fail
          refine (block_any f2 _).mono ?_
          rintro e w6 ⟨rfl, hb6⟩
          go_wp2_with fail
          have HS6 := Lib.hid (HS5.out.grow hb6)
          have hdw := HT5.out.dead_write (i : Int) (blkB f2)
          refine (write_any b mb m5 i (blkB f2) w6 HS6.out.disk (by rw [blkB_size]; decide)).mono ?_
          rw [hdw]
          rintro e w7 ⟨rfl, hd7, ho7⟩
          have HS7 := Lib.hid (HS6.out.only hd7 ho7)
          clear hdw hd7 ho7 HS6 HS5 x0 x1 x2 hb6
          go_wp2_with fail
          have hdr := HT5.out.dead_read 0
          refine (read_any b mb m5 0 w7 HS7.out.disk).mono ?_
          rw [hdr]
          rintro e w8 ⟨rfl, hb8⟩
          have HS8 := Lib.hid (HS7.out.grow hb8)
          clear hdr hb8 HS7
          go_wp2_with fail
          refine (start_any b mb m5 w8 HS8.out.disk).mono ?_
          rintro e w9 ⟨rfl, hd9, ho9⟩
          have HS9 := Lib.hid (HS8.out.only hd9 ho9)
          clear hd9 ho9 HS8
          go_wp2_with fail
          go_loopw [17] (fun v wr => ∃ (q : Nat), q ≤ 8 ∧ v = .int .i64 q ∧ St w wr b mb m5.start #[.int .u8 (f0.toNat : Int), .int .u8 (f1.toNat : Int), .int .u8 (f2.toNat : Int)]) (fun v _ => 8 - (intOf v).toNat)
          case atStart => exact ⟨0, by omega, rfl, HS9.out⟩
          case round =>
            clear HS9
            obtain ⟨q, hq, rfl, hS⟩ := hrel
            obtain ⟨x0, x1, x2⟩ := hc.out _ _ hS
            have HS := Lib.hid hS
            clear hS
            by_cases hlt : q < 8
            · go_wp2_with fail
              have hrem : ((i : Int) + q) % 8 = (((i + q) % 8 : Nat) : Int) := by omega
              rw [hrem]
              have hrd := HT5.out.read q hlt
              refine (read_any b mb m5.start _ wr HS.out.disk).mono ?_
              rw [hrd]
              rintro e w10 ⟨rfl, hb10⟩
              have HS10 := Lib.hid (HS.out.grow hb10)
              clear hrd hb10 HS x0 x1 x2 hrem
              obtain ⟨x0, x1, x2⟩ := hc.out _ _ HS10.out
              by_cases hq0 : q = 0
              · subst hq0
                rw [if_pos rfl]
                unfold torn
                go_wp2_with fail
                refine (block_any f0 _).mono ?_
                rintro e w11 ⟨rfl, hb11⟩
                have HS11 := Lib.hid (HS10.out.grow hb11)
                clear hb11 HS10 x0 x1 x2
                obtain ⟨x0, x1, x2⟩ := hc.out _ _ HS11.out
                go_wp2_with fail
                have hz0 : p ≤ (blkB f0).size := by rw [blkB_size]; omega
                have hz2 : p ≤ (blkB f2).size := by rw [blkB_size]; omega
                have hz1 : ¬ 9223372036854775807 < (blkB f0).size := by rw [blkB_size]; omega
                refine wp_region_held_drew (S := fun w' => w'.cell? ⟨w.heap.size + 1, 2, none⟩ = some (.int .u8 (f2.toNat : Int))) (by kernel_rfl) ?_ (fun hHeld => ?_)
                · exact x2
                refine take_op 0 (some 130) (v := ?_) rfl rfl (by kernel_rfl) (by kernel_rfl) (by kernel_rfl) (fun _ _ _ h => h) (Or.inl ⟨by rfl, ?_⟩) (by assumption) ?_
                rotate_left
                · intro w_ hSw_; (try dsimp only at hSw_); go_simp; (try with_reducible rfl)
                try simp only [Act.put, List.setIfInBounds_toArray, List.set_cons_zero, List.set_cons_succ]
                refine take_op 1 (some 131) (v := ?_) rfl rfl (by kernel_rfl) (by kernel_rfl) (by kernel_rfl) (fun _ _ _ h => h) (Or.inl ⟨by rfl, ?_⟩) (by assumption) ?_
                rotate_left
                · intro w_ hSw_; (try dsimp only at hSw_); go_simp; (try with_reducible rfl)
                try simp only [Act.put, List.setIfInBounds_toArray, List.set_cons_zero, List.set_cons_succ]
                refine take_op 3 (some 133) (v := ?_) rfl rfl (by kernel_rfl) (by kernel_rfl) (by kernel_rfl) (fun _ _ _ h => h) (Or.inl ⟨by rfl, ?_⟩) (by assumption) ?_
                rotate_left
                · intro w_ hSw_; (try dsimp only at hSw_); go_simp; (try with_reducible rfl)
                try simp only [Act.put, List.setIfInBounds_toArray, List.set_cons_zero, List.set_cons_succ]
                refine take_op 5 (some 135) (v := ?_) rfl rfl (by kernel_rfl) (by kernel_rfl) (by kernel_rfl) (fun _ _ _ h => h) (Or.inl ⟨by rfl, ?_⟩) (by assumption) ?_
                rotate_left
                · intro w_ hSw_; (try dsimp only at hSw_); go_simp; (try with_reducible rfl)
                try simp only [Act.put, List.setIfInBounds_toArray, List.set_cons_zero, List.set_cons_succ]
                refine take_op 6 (some 136) (v := ?_) rfl rfl (by kernel_rfl) (by kernel_rfl) (by kernel_rfl) (fun _ _ _ h => h) (Or.inl ⟨by rfl, ?_⟩) (by assumption) ?_
                rotate_left
                · intro w_ hSw_; (try dsimp only at hSw_); go_simp; (try with_reducible rfl)
                try simp only [Act.put, List.setIfInBounds_toArray, List.set_cons_zero, List.set_cons_succ]
                refine take_op 7 (some 137) (v := ?_) rfl rfl (by kernel_rfl) (by kernel_rfl) (by kernel_rfl) (fun _ _ _ h => h) (Or.inl ⟨by rfl, ?_⟩) (by assumption) ?_
                rotate_left
                · intro w_ hSw_; (try dsimp only at hSw_); go_simp; (try with_reducible rfl)
                try simp only [Act.put, List.setIfInBounds_toArray, List.set_cons_zero, List.set_cons_succ]
                refine go_op 2 rfl (by kernel_rfl) (fun K_ hK_ => ?_)
                go_simp
                refine (block_any f2 _).mono ?_
                rintro e w12 ⟨rfl, hb12⟩
                have HS12 := Lib.hid ((HS11.out.grow ((Below.refl _ _).drew)).grow hb12)
                clear hb12 x0 x1 x2
                refine hK_.out _ _ ?_ (fun hHeld_ => ?_)
                · exact (hc.out _ _ HS12.out).2.2
                refine take_op 4 (some 134) (v := ?_) rfl rfl (by kernel_rfl) (by kernel_rfl) (by kernel_rfl) (fun _ _ _ h => h) (Or.inl ⟨by rfl, ?_⟩) (by assumption) ?_
                rotate_left
                · intro w_ hSw_; (try dsimp only at hSw_); go_simp; (try with_reducible rfl)
                try simp only [Act.put, List.setIfInBounds_toArray, List.set_cons_zero, List.set_cons_succ]
                refine take_op 8 (some 138) (v := ?_) rfl rfl (by kernel_rfl) (by kernel_rfl) (by kernel_rfl) (fun _ _ _ h => h) (Or.inl ⟨by rfl, ?_⟩) (by assumption) ?_
                rotate_left
                · intro w_ hSw_; (try dsimp only at hSw_); go_simp; (try with_reducible rfl)
                try simp only [Act.put, List.setIfInBounds_toArray, List.set_cons_zero, List.set_cons_succ]
                refine take_op 9 (some 20) (v := ?_) rfl rfl (by kernel_rfl) (by kernel_rfl) (by kernel_rfl) (fun _ _ _ h => h) (Or.inl ⟨by rfl, ?_⟩) (by assumption) ?_
                rotate_left
                · intro w_ hSw_; (try dsimp only at hSw_); go_simp; (try with_reducible rfl)
                try simp only [Act.put, List.setIfInBounds_toArray, List.set_cons_zero, List.set_cons_succ]
                refine wpAnyH_done (by kernel_rfl) ?_ _
                go_wp2_with fail
                go_roundw
                case rel => exact ⟨0 + 1, by omega, by go_num, HS12.out⟩
                case measure => simp [intOf]
              · rw [if_neg hq0]
                by_cases hqk : q ≤ k
                · rw [if_pos hqk]
                  go_wp2_with fail
                  refine (block_any f0 _).mono ?_
                  rintro e w11 ⟨rfl, hb11⟩
                  have HS11 := Lib.hid (HS10.out.grow hb11)
                  clear hb11 HS10 x0 x1 x2
                  obtain ⟨x0, x1, x2⟩ := hc.out _ _ HS11.out
                  go_wp2_with fail
                  refine (block_any f1 _).mono ?_
                  rintro e w12 ⟨rfl, hb12⟩
                  have HS12 := Lib.hid (HS11.out.grow hb12)
                  clear hb12 HS11 x0 x1 x2
                  go_wp2_with fail
                  go_roundw
                  case rel => exact ⟨q + 1, by omega, by go_num, HS12.out⟩
                  case measure => simp [intOf]; omega
                · rw [if_neg hqk]
                  go_wp2_with fail
                  refine (block_any f0 _).mono ?_
                  rintro e w11 ⟨rfl, hb11⟩
                  have HS11 := Lib.hid (HS10.out.grow hb11)
                  clear hb11 HS10 x0 x1 x2
                  go_wp2_with fail
                  go_roundw
                  case rel => exact ⟨q + 1, by omega, by go_num, HS11.out⟩
                  case measure => simp [intOf]; omega
            · have hq8 : q = 8 := by omega
              subst hq8
              clear hlt hq
              obtain ⟨hz, hwr⟩ := HT5.out.last hi hk (blkB f1) (blkB_size f1)
              go_wp2_with fail
              refine (block_any f1 _).mono ?_
              rintro e w10 ⟨rfl, hb10⟩
              have HS10 := Lib.hid (HS.out.grow hb10)
              go_wp2_with fail
              refine (write_any b mb m5.start i (blkB f1) w10 HS10.out.disk (by rw [blkB_size]; decide)).mono ?_
              rintro e w11 ⟨rfl, hd11, ho11⟩
              rw [hz]
              have HS11 := Lib.hid (HS10.out.only hd11 ho11)
              go_wp2_with fail
              refine (writes_any b mb _ w11 HS11.out.disk).mono ?_
              rintro e w12 ⟨rfl, hw12⟩
              have hw12 := hw12.symm
              subst hw12
              rw [hwr]
              go_wp2_with fail
              refine (wakes11_any _).mono ?_
              rintro e w13 ⟨rfl, hb13⟩
              go_wp2_with fail
              go_ret
              exact ⟨rfl, (HS11.out.grow hb13).bel⟩
theorem own : ownKnob Try.prog.godebug = none := by kernel_rfl
theorem laidOut : laidOutB Try.prog = true := by kernel_rfl
set_option maxRecDepth 100000 in
theorem lifted (os : Os) (started : os.Started) (H : Type) (enc : TypeId × Value → H) :
    ReturnsInHanded {} Try.checked os 8 .any (Rows.diskTornSpec.pre6 enc Try.prog Try.f8 Rows.diskTornRow.domain false) (Rows.diskTornSpec.post enc Try.prog Try.f8 false true false false) := by
  refine returnsInHanded_of_change (C := Try.checked) own started (by kernel_rfl) Try.func8
    (ChangeSpec.witness6 (enc := enc) (C := Try.checked) false ⟨#[], #[.agg #[.int .u8 0,.int .u8 0,.int .u8 0], .agg #[.int .u8 0,.int .u8 0,.int .u8 0]], []⟩ 8 (by kernel_rfl) (by kernel_rfl) (by kernel_rfl) (by kernel_rfl)) ?_
  intro W base args ds gs before hval0 hW hcnd _
  have hval : ∀ (j : Nat) t v, Try.f8.params[j]? = some t → args[j]? = some v → Value.okWide Try.prog W .any base t v := hval0
  have hW' := hW
  obtain ⟨p, q, hA0, hV, rfl, hfz, hnd⟩ := hW
  have hA : DataW.TrodAll enc Try.prog W 0 (fun _ => true) true Try.f8.params.toList args.toList ds p := hA0
  rw [Try.params8] at hA hval
  obtain ⟨v0, vs0, d0, ds0, p0, q0, hargs, rfl, rfl, h0, r0⟩ := trodAll_cons hA
  obtain ⟨v1, vs1, d1, ds1, p1, q1, rfl, rfl, rfl, h1, r1⟩ := trodAll_cons r0
  obtain ⟨rfl, rfl, rfl⟩ := trodAll_nil r1
  obtain rfl : args = #[v0, v1] := by cases args; simp_all
  obtain ⟨rfl, rfl⟩ := trodVars_none hV
  have k0 := h0
  have lt0 : ∀ x ∈ p0, x.block < W.heap.size := by obtain ⟨m, hm⟩ := k0; exact DataW.trod_lt m _ _ _ hm
  have k1 := h1
  have lt1 : ∀ x ∈ p1, x.block < W.heap.size := by obtain ⟨m, hm⟩ := k1; exact DataW.trod_lt m _ _ _ hm
  obtain ⟨cs0, e0, _⟩ := okWide_array Try.underlying58 (hval 0 58 v0 rfl rfl)
  obtain ⟨a0, w0⟩ : ∃ a, k3.R W a cs0.toList := by
    obtain ⟨fuel, hf⟩ := h0
    rw [e0] at hf
    exact k3.opn hf
  subst e0
  obtain ⟨cs1, e1, _⟩ := okWide_array Try.underlying58 (hval 1 58 v1 rfl rfl)
  obtain ⟨a1, w1⟩ : ∃ a, k3.R W a cs1.toList := by
    obtain ⟨fuel, hf⟩ := h1
    rw [e1] at hf
    exact k3.opn hf
  subst e1
  clear hA0 hval0
  refine (walk W cs0 a0 w0 cs1 a1 w1).mono fun e W' ⟨he, bel⟩ => ?_
  subst he
  exact ⟨_, rfl, _, _, _, [], _, [], hW', trodAll_mk1 (shut_bool Try.underlying4 _), (trodAll_cons_mk (Below.trod laidOut (by kernel_rfl) (of_decide_eq_true (by kernel_rfl)) k0 bel lt0) (trodAll_cons_mk (Below.trod laidOut (by kernel_rfl) (of_decide_eq_true (by kernel_rfl)) k1 bel lt1) trodAll_mk0)), rfl, bel.frame _, fun h => by cases h⟩
theorem over : Rows.diskTornRow.holds Try.pinned (OpenSpec.ofChange Rows.diskTornSpec) :=
  OpenClaim.holds_of_wide 8 Try.f8 rfl rfl rfl rfl rfl rfl rfl ⟨rfl, rfl, rfl, rfl, rfl⟩ rfl rfl rfl rfl rfl (by kernel_rfl) Try.func8 (by kernel_rfl)
    (of_decide_eq_true (by kernel_rfl)) (by unfold Func.isWrapper; first | (rw [if_pos (by decide +kernel)]; kernel_rfl) | (rw [if_neg (by decide +kernel)]; exact ⟨rfl, rfl⟩))
    (fun os started H enc _ => lifted os started H enc)
theorem proved : Rows.DiskTornSaid := over
#print axioms proved
end Go.Proofs.Ytcienfbkcfhfcaa.diskTorn
