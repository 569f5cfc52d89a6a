import Derived.Test.YtcakellhellddaaGreatDoorSteps
import Derived.Test.YtcakellhellddaaGreatDoorMp
import Derived.Test.YtcakellhellddaaGreatDoorProg
import Derived.Defers
import Derived.Recover
import Derived.Lib.EndianMore
import Derived.Lib.EndianBits
set_option linter.unusedSimpArgs false
set_option linter.unusedVariables false
namespace Go.Proofs.YtcakellhellddaaGreatDoor
open Go.RowKit
/-! package pack: numbers' bytes, put behind one another. -/
/-- n bytes of v, the lowest first. -/
def leL (n v : Nat) : List UInt8 := (List.range n).map fun i => UInt8.ofNat (v / 2 ^ (8 * i) % 256)
theorem leL_succ (n v : Nat) : leL (n + 1) v = leL n v ++ [UInt8.ofNat (v / 2 ^ (8 * n) % 256)] := by simp [leL, List.range_succ]
theorem leL_len (n v : Nat) : (leL n v).length = n := by simp [leL]
def u8v (x : UInt8) : Value := .int .u8 (x.toNat : Int)
theorem sl_u8p : Tryz.prog.underlying 64 = some (.slice 5) := by kernel_rfl
theorem u8_infop : (Tryz.prog.info? 5).map (fun i => (i.zero, i.size, i.bytes)) = some (some (.int .u8 0), 1, 1) := by kernel_rfl
/-- A packer in block pb that holds the bytes L. -/
structure PkAt (w : World) (pb : Nat) (v : Value) (L : List UInt8) : Prop where
  blk : Blk w pb #[v, .int .i64 0] 136
  row : w.ownsRow (pb + 1) 5 1 v L.length (L.map u8v)
/-- What a packer's work may turn: its block, its row. -/
def pkOwn (pb : Nat) (v : Value) : Nat → Prop := fun k => k = pb ∨ v.ownBlock = some k
theorem pkSize_any (n : Nat) (hn : n = 1 ∨ n = 2 ∨ n = 4 ∨ n = 8) (w : World) :
    Calls Tryz.prog 104 #[.int .i64 n] w fun e w' => e = .returned (.bool true) ∧ w' = w := by
  rcases hn with rfl | rfl | rfl | rfl
  all_goals
    go_enter Tryz.func104, Tryz.ntmps104
    go_wp2
    go_ret
    exact ⟨rfl, rfl⟩
theorem Only.grown {S : Nat → Prop} {w w2 w3 : World} {row : Option Nat} (h : Only S w w2) (hg : w2.grownBy w3 row) (hr : ∀ k, row = some k → k < w.heap.size → S k) : Only S w w3 :=
  ⟨hg.os.trans h.os, hg.tape.trans h.tape, hg.output.trans h.output, Nat.le_trans h.size hg.size, fun k hk hs =>
    (hg.block k (Nat.lt_of_lt_of_le hk h.size) (fun e => hs (hr k e.symm hk))).trans (h.block k hk hs)⟩
set_option maxHeartbeats 1000000 in
theorem pknum_any (pb : Nat) (v0 : Value) (L : List UInt8) (v n : Nat) (hn : n = 2 ∨ n = 4) (hv : v < 256 ^ n) (hL : L.length ≤ 100000) (w : World) (h : PkAt w pb v0 L) :
    Calls Tryz.prog 108 #[.pointer (some ⟨pb, 0, none⟩), .int .u64 v, .int .i64 n] w fun e w' => e = .returned (.tuple #[]) ∧
      ∃ v', PkAt w' pb v' (L ++ leL n v) ∧ Only (pkOwn pb v0) w w' ∧ (v'.ownBlock = v0.ownBlock ∨ ∀ k, v'.ownBlock = some k → w.heap.size ≤ k) := by
  have H := Lib.hid h
  clear h
  have hsh : ((v : Int) / 2 ^ (8 * n) != 0) = false := by
    have h1 : v / 2 ^ (8 * n) = 0 := Nat.div_eq_of_lt (by rw [Nat.pow_mul]; exact hv)
    have h2 : (v : Int) / 2 ^ (8 * n) = ((v / 2 ^ (8 * n) : Nat) : Int) := by simp
    rw [h2, h1]; rfl
  have hnb : Hid (n ≤ 4) := Lib.hid (by omega)
  go_enter Tryz.func108, Tryz.ntmps108
  go_wp2_with (go_at_call 104; refine (pkSize_any n (by omega) _).mono ?_; rintro e w1 ⟨rfl, hw1⟩; have hw1 := hw1.symm; subst hw1)
  clear hsh
  go_loopw [23] (fun x wr => ∃ (i : Nat) (v' : Value), i ≤ n ∧ x = .int .i64 i ∧ PkAt wr pb v' (L ++ leL i v) ∧ Only (pkOwn pb v0) w wr ∧ (v'.ownBlock = v0.ownBlock ∨ ∀ k, v'.ownBlock = some k → w.heap.size ≤ k)) (fun x _ => n - (intOf x).toNat)
  case atStart => exact ⟨0, v0, by omega, rfl, by simpa [leL] using H.out, Only.refl _ _, .inl rfl⟩
  case round =>
    obtain ⟨i, v', hi, rfl, hP, hO, hB⟩ := hrel
    obtain ⟨M, hM⟩ : ∃ M, M = L ++ leL i v := ⟨_, rfl⟩
    have hlen : M.length ≤ 100004 := by rw [hM, List.length_append, leL_len]; have := hnb.out; omega
    rw [← hM] at hP
    have HM := Lib.hid hM
    clear hM
    have HP := Lib.hid hP
    have HO := Lib.hid hO
    have HB := Lib.hid hB
    have c0 : wr.cell? ⟨pb, 0, none⟩ = some v' := hP.blk.cell 0
    clear hP hO hB
    by_cases hlt : i < n
    · have hi4 : i < 4 := by have := hnb.out; omega
      have hw8 : Hid (IntKind.i64.wrap (8 * (i : Int)) = 8 * (i : Int)) := Lib.hid (by rw [IntKind.wrap_i64]; omega)
      have hby : Hid (IntKind.u8.wrap ((v : Int) / 2 ^ (8 * (i : Int)).toNat) = ((UInt8.ofNat (v / 2 ^ (8 * i) % 256)).toNat : Int)) := by
        refine Lib.hid ?_
        have e1 : (8 * (i : Int)).toNat = 8 * i := by omega
        have e2 : (v : Int) / 2 ^ (8 * i) = ((v / 2 ^ (8 * i) : Nat) : Int) := by simp
        rw [e1, e2, IntKind.wrap_u8, UInt8.toNat_ofNat']
        omega
      obtain ⟨x, hx⟩ : ∃ x, x = UInt8.ofNat (v / 2 ^ (8 * i) % 256) := ⟨_, rfl⟩
      rw [← hx] at hby
      have HX := Lib.hid hx
      clear hx
      go_wp2_with fail
      refine wp_region_gate (fun w1 => w1.cell? ⟨pb, 0, none⟩ = some v') 11 (by kernel_rfl) ?_ (fun hHeld => ?_)
      · exact c0
      refine take_gop0 0 (some 26) (v := ?_) rfl rfl (by kernel_rfl) (by kernel_rfl) (by kernel_rfl) (by kernel_rfl) (fun _ _ _ h => h) (Or.inl ⟨by rfl, ?_⟩) (by first | exact fun _ => by assumption | exact fun h => absurd h (by decide)) ?_
      rotate_left
      · intro w_ hSw_; (try dsimp only at hSw_); go_simp; (try with_reducible rfl)
      try simp only [Act.put, List.setIfInBounds_toArray, List.set_cons_zero, List.set_cons_succ]
      refine take_gop0 1 (some 27) (v := ?_) rfl rfl (by kernel_rfl) (by kernel_rfl) (by kernel_rfl) (by kernel_rfl) (fun _ _ _ h => h) (Or.inl ⟨by rfl, ?_⟩) (by first | exact fun _ => by assumption | exact fun h => absurd h (by decide)) ?_
      rotate_left
      · intro w_ hSw_; (try dsimp only at hSw_); go_simp; (try with_reducible rfl)
      try simp only [Act.put, List.setIfInBounds_toArray, List.set_cons_zero, List.set_cons_succ]
      refine take_gop0 2 (some 28) (v := ?_) rfl rfl (by kernel_rfl) (by kernel_rfl) (by kernel_rfl) (by kernel_rfl) (fun _ _ _ h => h) (Or.inl ⟨by rfl, ?_⟩) (by first | exact fun _ => by assumption | exact fun h => absurd h (by decide)) ?_
      rotate_left
      · intro w_ hSw_; (try dsimp only at hSw_); go_simp; (try with_reducible rfl)
      try simp only [Act.put, List.setIfInBounds_toArray, List.set_cons_zero, List.set_cons_succ]
      refine take_gop0 3 (some 29) (v := ?_) rfl rfl (by kernel_rfl) (by kernel_rfl) (by kernel_rfl) (by kernel_rfl) (fun _ _ _ h => h) (Or.inl ⟨by rfl, ?_⟩) (by first | exact fun _ => by assumption | exact fun h => absurd h (by decide)) ?_
      rotate_left
      · intro w_ hSw_; (try dsimp only at hSw_); go_simp; (try with_reducible rfl)
      try simp only [Act.put, List.setIfInBounds_toArray, List.set_cons_zero, List.set_cons_succ]
      refine take_gop 4 (some 30) (v := ?_) rfl rfl (by kernel_rfl) (by kernel_rfl) (by kernel_rfl) (by kernel_rfl) (fun _ _ _ h => h) (Or.inl ⟨by rfl, ?_⟩) (by assumption) ?_
      rotate_left
      · intro w_ hSw_; (try dsimp only at hSw_); go_simp; (try with_reducible rfl)
      try simp only [Act.put, List.setIfInBounds_toArray, List.set_cons_zero, List.set_cons_succ]
      refine take_gop0 5 (some 31) (v := ?_) rfl rfl (by kernel_rfl) (by kernel_rfl) (by kernel_rfl) (by kernel_rfl) (fun _ _ _ h => h) (Or.inl ⟨by rfl, ?_⟩) (by first | exact fun _ => by assumption | exact fun h => absurd h (by decide)) ?_
      rotate_left
      · intro w_ hSw_; (try dsimp only at hSw_); go_simp; (try with_reducible rfl)
      try simp only [Act.put, List.setIfInBounds_toArray, List.set_cons_zero, List.set_cons_succ]
      refine take_gop0 6 (some 32) (v := ?_) rfl rfl (by kernel_rfl) (by kernel_rfl) (by kernel_rfl) (by kernel_rfl) (fun _ _ _ h => h) (Or.inl ⟨by rfl, ?_⟩) (by first | exact fun _ => by assumption | exact fun h => absurd h (by decide)) ?_
      rotate_left
      · intro w_ hSw_; (try dsimp only at hSw_); go_simp; (try with_reducible rfl)
      try simp only [Act.put, List.setIfInBounds_toArray, List.set_cons_zero, List.set_cons_succ]
      refine take_gop0 7 (some 33) (v := ?_) rfl rfl (by kernel_rfl) (by kernel_rfl) (by kernel_rfl) (by kernel_rfl) (fun _ _ _ h => h) (Or.inl ⟨by rfl, ?_⟩) (by first | exact fun _ => by assumption | exact fun h => absurd h (by decide)) ?_
      rotate_left
      · intro w_ hSw_; (try dsimp only at hSw_); go_simp; (try with_reducible rfl)
      try simp only [Act.put, List.setIfInBounds_toArray, List.set_cons_zero, List.set_cons_succ]
      rw [hw8.out]
      refine take_gop0 8 (some 34) (v := ?_) rfl rfl (by kernel_rfl) (by kernel_rfl) (by kernel_rfl) (by kernel_rfl) (fun _ _ _ h => h) (Or.inl ⟨by rfl, ?_⟩) (by first | exact fun _ => by assumption | exact fun h => absurd h (by decide)) ?_
      rotate_left
      · intro w_ hSw_; (try dsimp only at hSw_); go_simp; (try with_reducible rfl)
      try simp only [Act.put, List.setIfInBounds_toArray, List.set_cons_zero, List.set_cons_succ]
      refine take_gop0 9 (some 35) (v := ?_) rfl rfl (by kernel_rfl) (by kernel_rfl) (by kernel_rfl) (by kernel_rfl) (fun _ _ _ h => h) (Or.inl ⟨by rfl, ?_⟩) (by first | exact fun _ => by assumption | exact fun h => absurd h (by decide)) ?_
      rotate_left
      · intro w_ hSw_; (try dsimp only at hSw_); go_simp; (try with_reducible rfl)
      try simp only [Act.put, List.setIfInBounds_toArray, List.set_cons_zero, List.set_cons_succ]
      rw [hby.out]
      refine go_gopS 10 rfl (by kernel_rfl) (fun K_ hK_ => ?_)
      go_simp
      have hlw : (wr.alloc (.cells #[.int .u8 (x.toNat : Int)] 5)).drew.heap.size = wr.heap.size + 1 := by simp
      have hbz := Blk.new wr #[Value.int .u8 (x.toNat : Int)] 5
      have HP2 : Hid (PkAt (wr.alloc (.cells #[.int .u8 (x.toNat : Int)] 5)).drew pb v' M) := Lib.hid ⟨(HP.out.blk.alloc _).drew, owns_below (B := wr.heap.size) HP.out.row (((Below.refl _ _).alloc (Nat.le_refl _) _).drew) (Nat.le_refl _)⟩
      have HO2 : Hid (Only (pkOwn pb v0) w (wr.alloc (.cells #[.int .u8 (x.toNat : Int)] 5)).drew) := Lib.hid ((HO.out.alloc _).drew)
      have cz : (wr.alloc (.cells #[.int .u8 (x.toNat : Int)] 5)).drew.cell? ⟨wr.heap.size, 0, none⟩ = some (.int .u8 (x.toNat : Int)) := hbz.drew.cell 0
      have c2 : (wr.alloc (.cells #[.int .u8 (x.toNat : Int)] 5)).drew.cell? ⟨pb, 0, none⟩ = some v' := HP2.out.blk.cell 0
      have hs2 : pb + 1 ≤ (wr.alloc (.cells #[.int .u8 (x.toNat : Int)] 5)).drew.heap.size := HP2.out.blk.lt
      have hpr := HP.out.blk.lt
      clear HP HO hbz
      revert hlw HP2 HO2 cz c2 hs2
      generalize (wr.alloc (.cells #[.int .u8 (x.toNat : Int)] 5)).drew = w2
      intro hlw HP2 HO2 cz c2 hs2
      refine hK_.out _ _ ?_ (fun hHeld_ => ?_)
      · exact c2
      refine go_gopF 11 rfl (by kernel_rfl) (by kernel_rfl) (fun K_ hK_ => ?_)
      refine step_app sl_u8p u8_infop rfl (some 37) rfl rfl rfl (pb + 1) v' M.length (M.map u8v) rfl HP2.out.row ⟨wr.heap.size, 0, none⟩ 1 (u8v x) rfl cz rfl (by unfold maxLen; omega) (by omega) hs2 ?_
      intro g cap w3 hown hgrow hat hlt3
      have hbl := owns_block HP2.out.row
      have hpg : pb + 1 ≤ g := by
        rcases hat with h | h
        · exact hbl _ h
        · omega
      have hb3 : Blk w3 pb #[v', .int .i64 0] 136 := (hgrow.block _ HP2.out.blk.lt (fun e => by have := hbl _ e.symm; omega)).trans HP2.out.blk
      have HO3 : Hid (Only (pkOwn pb v0) w w3) := Lib.hid (HO2.out.grown hgrow (fun k hk hlt => by
        rcases HB.out with h | h
        · exact .inr (h ▸ hk)
        · exact absurd (h k hk) (by omega)))
      have HB3 : Hid (some g = v0.ownBlock ∨ w.heap.size ≤ g) := Lib.hid (by
        rcases hat with h | h
        · rcases HB.out with h1 | h1
          · exact .inl (h.symm.trans h1)
          · exact .inr (h1 g h)
        · have := HO2.out.size
          exact .inr (by omega))
      have c3 : w3.cell? ⟨pb, 0, none⟩ = some v' := hb3.cell 0
      have f3 := hb3.free 0
      have HR := Lib.hid hown
      have H3 := Lib.hid hb3
      clear hown hb3 hgrow hat hbl HP2 HO2 HB c2 cz hs2 hHeld c0
      simp only [Act.put, List.setIfInBounds_toArray, List.set_cons_zero, List.set_cons_succ]
      refine hK_.out _ _ ?_
      refine take_gop0 12 (some 38) (v := ?_) rfl rfl (by kernel_rfl) (by kernel_rfl) (by kernel_rfl) (by kernel_rfl) (fun _ _ _ h => h) (Or.inl ⟨by rfl, ?_⟩) (by first | exact fun _ => by assumption | exact fun h => absurd h (by decide)) ?_
      rotate_left
      · intro w_ hSw_; (try dsimp only at hSw_); go_simp; (try with_reducible rfl)
      try simp only [Act.put, List.setIfInBounds_toArray, List.set_cons_zero, List.set_cons_succ]
      refine take_gop0 13 (some 39) (v := ?_) rfl rfl (by kernel_rfl) (by kernel_rfl) (by kernel_rfl) (by kernel_rfl) (fun _ _ _ h => h) (Or.inl ⟨by rfl, ?_⟩) (by first | exact fun _ => by assumption | exact fun h => absurd h (by decide)) ?_
      rotate_left
      · intro w_ hSw_; (try dsimp only at hSw_); go_simp; (try with_reducible rfl)
      try simp only [Act.put, List.setIfInBounds_toArray, List.set_cons_zero, List.set_cons_succ]
      refine go_gopF 14 rfl (by kernel_rfl) (by kernel_rfl) (fun K_ hK_ => ?_)
      go_simp
      refine hK_.out _ _ ?_
      refine AnyG.done (by kernel_rfl) ?_ _
      go_wp2
      go_roundw
      case rel =>
        refine ⟨i + 1, .slice (some ⟨g, 0, none⟩) (M.length + 1) cap, by omega, by go_num, ⟨H3.out.setCell 0 _, ?_⟩, HO3.out.setCell (fun _ => .inl rfl) _, ?_⟩
        · have e1 : L ++ leL (i + 1) v = M ++ [x] := by rw [HM.out, leL_succ, ← HX.out, List.append_assoc]
          rw [e1, List.length_append, List.map_append]
          refine ⟨HR.out.1, ?_⟩
          rcases HR.out.2 with ⟨h, _⟩ | ⟨g', cap', cur, h1, h2, h3, h4⟩
          · cases h
          · refine .inr ⟨g', cap', cur, h1, h2, ?_, h4⟩
            cases h1
            exact (Below.heap_setCell _ _ _ _ (show g ≠ pb by omega)).trans h3
        · rcases HB3.out with h | h
          · exact .inl h
          · refine .inr (fun k hk => ?_)
            have : g = k := by simpa [Value.ownBlock] using hk
            omega
      case measure => simp [intOf]; omega
    · have hin : i = n := by omega
      subst hin
      go_wp2
      go_end0
      exact ⟨rfl, v', HM.out ▸ HP.out, HO.out, HB.out⟩
end Go.Proofs.YtcakellhellddaaGreatDoor
namespace Go.Proofs.YtcakellhellddaaGreatDoor
open Go.RowKit
theorem u8_up : Tryz.prog.underlying 5 = some (.int .u8) := by kernel_rfl
theorem str_up : Tryz.prog.underlying 9 = some .string := by kernel_rfl
set_option maxHeartbeats 400000 in
/-- The deferred closure of a 'put' that did not panic. -/
theorem putF_idle (bx : Nat) (w : World) :
    CallsD Tryz.prog 115 #[.pointer (some ⟨bx, 0, none⟩)] .returning w fun e u' w' => e = .returned (.tuple #[]) ∧ u' = .returning ∧ w' = w := by
  refine callsD_of_wpS Tryz.func115 rfl fun c₀ cs hu => ?_
  apply wpS_seq
  apply wpS_region
  simp [wpOpsS, go_sem, recoverD, hu, Tryz.ntmps115, Exit.thenS]
  refine wpS_of_wp ?_
  go_wp2
  cases c₀
  simp_all [bodyPostS, results, Tryz.results115]
/-- What a number's writing leaves. -/
def NumPost (pb : Nat) (v0 : Value) (M : List UInt8) (w : World) (e : Ending) (w' : World) : Prop :=
  e = .returned (.tuple #[]) ∧ ∃ v', PkAt w' pb v' M ∧ Only (pkOwn pb v0) w w' ∧ (v'.ownBlock = v0.ownBlock ∨ ∀ k, v'.ownBlock = some k → w.heap.size ≤ k)
theorem NumPost.from {pb : Nat} {v0 : Value} {M : List UInt8} {w w1 w' : World} {e : Ending} (hb : Below w.heap.size w w1) (h : NumPost pb v0 M w1 e w') : NumPost pb v0 M w e w' := by
  obtain ⟨h1, v', h2, h3, h4⟩ := h
  refine ⟨h1, v', h2, (Only.of_below hb).trans h3, ?_⟩
  rcases h4 with h | h
  · exact .inl h
  · exact .inr (fun k hk => Nat.le_trans hb.size (h k hk))
theorem PkAt.grown {w w1 : World} {pb : Nat} {v : Value} {L : List UInt8} (h : PkAt w pb v L) (hb : Below w.heap.size w w1) : PkAt w1 pb v L :=
  ⟨h.blk.below hb h.blk.lt, owns_below h.row hb (Nat.le_refl _)⟩
theorem numF_any (b1 b2 b3 pb : Nat) (v0 : Value) (L : List UInt8) (v n : Nat) (hn : n = 2 ∨ n = 4) (hv : v < 256 ^ n) (hL : L.length ≤ 100000) (w : World) (h : PkAt w pb v0 L)
    (c1 : w.cell? ⟨b1, 0, none⟩ = some (.pointer (some ⟨pb, 0, none⟩))) (c2 : w.cell? ⟨b2, 0, none⟩ = some (.int .u64 v)) (c3 : w.cell? ⟨b3, 0, none⟩ = some (.int .i64 n)) :
    Calls Tryz.prog 107 #[.pointer (some ⟨b1, 0, none⟩), .pointer (some ⟨b2, 0, none⟩), .pointer (some ⟨b3, 0, none⟩)] w (NumPost pb v0 (L ++ leL n v) w) := by
  have H := Lib.hid h
  have HV := Lib.hid hv
  clear h hv
  go_enter Tryz.func107, Tryz.ntmps107
  go_wp2_with fail
  refine (pknum_any pb v0 L v n hn HV.out hL _ H.out).mono ?_
  rintro e w1 ⟨rfl, hp⟩
  go_wp2_with fail
  go_end0
  exact ⟨rfl, hp⟩
theorem owns_lt {w : World} {base : Nat} {e : TypeId} {s : Nat} {v : Value} {n : Nat} {xs : List Value} (h : w.ownsRow base e s v n xs) : ∀ k, v.ownBlock = some k → k < w.heap.size := by
  intro k hk
  rcases h.2 with ⟨rfl, _⟩ | ⟨g, cap, cur, rfl, _, hb, _⟩
  · cases hk
  · simp [Value.ownBlock] at hk; subst hk; exact lt_of_block hb
set_option maxHeartbeats 1000000 in
theorem put_num (b1 b2 b3 pb : Nat) (v0 : Value) (L : List UInt8) (v n : Nat) (hn : n = 2 ∨ n = 4) (hv : v < 256 ^ n) (hL : L.length ≤ 50000) (w : World) (h : PkAt w pb v0 L)
    (c1 : w.cell? ⟨b1, 0, none⟩ = some (.pointer (some ⟨pb, 0, none⟩))) (c2 : w.cell? ⟨b2, 0, none⟩ = some (.int .u64 v)) (c3 : w.cell? ⟨b3, 0, none⟩ = some (.int .i64 n)) :
    Calls Tryz.prog 106 #[.pointer (some ⟨pb, 0, none⟩), .func (.func 107) #[] #[.pointer (some ⟨b1, 0, none⟩), .pointer (some ⟨b2, 0, none⟩), .pointer (some ⟨b3, 0, none⟩)]] w (NumPost pb v0 (L ++ leL n v) w) := by
  have hmf : ∀ (fn : Fn) (first cap : Array Value) (w : World), (Instr.makeFunc fn first cap).run Tryz.prog w = .ok (.func fn first cap) w := fun _ _ _ _ => rfl
  have H := Lib.hid h
  have HV := Lib.hid hv
  have e1 : w.cell? ⟨pb, 1, none⟩ = some (.int .i64 0) := h.blk.cell 1
  have l1 := World.block_lt_of_cell? w _ c1
  have l2 := World.block_lt_of_cell? w _ c2
  have l3 := World.block_lt_of_cell? w _ c3
  have lp := h.blk.lt
  clear h hv
  go_enter_defers Tryz.func106, Tryz.ntmps106
  go_wp2_with fail
  have HA : Hid (PkAt (w.alloc (.cells #[.pointer (some ⟨pb, 0, none⟩)] 134)) pb v0 L) := Lib.hid ⟨H.out.blk.alloc _, owns_below (B := w.heap.size) H.out.row ((Below.refl _ _).alloc (Nat.le_refl _) _) (Nat.le_refl _)⟩
  have hbx := Blk.new w #[.pointer (some ⟨pb, 0, none⟩)] 134
  have d1 : (w.alloc (.cells #[.pointer (some ⟨pb, 0, none⟩)] 134)).cell? ⟨b1, 0, none⟩ = some (.pointer (some ⟨pb, 0, none⟩)) := (World.cell?_alloc_lt _ _ _ l1).trans c1
  have d2 : (w.alloc (.cells #[.pointer (some ⟨pb, 0, none⟩)] 134)).cell? ⟨b2, 0, none⟩ = some (.int .u64 v) := (World.cell?_alloc_lt _ _ _ l2).trans c2
  have d3 : (w.alloc (.cells #[.pointer (some ⟨pb, 0, none⟩)] 134)).cell? ⟨b3, 0, none⟩ = some (.int .i64 n) := (World.cell?_alloc_lt _ _ _ l3).trans c3
  refine (numF_any b1 b2 b3 pb v0 L v n hn HV.out (by omega) _ HA.out d1 d2 d3).mono ?_
  rintro e w1 ⟨rfl, v', hP1, hO1, hB1⟩
  have hne : ¬ pkOwn pb v0 w.heap.size := by
    rintro (h | h)
    · omega
    · have := owns_lt H.out.row _ h; omega
  have hb1 := hO1.blk hbx hne
  have k0 : w1.cell? ⟨w.heap.size, 0, none⟩ = some (.pointer (some ⟨pb, 0, none⟩)) := hb1.cell 0
  obtain ⟨M, hM⟩ : ∃ M, M = L ++ leL n v := ⟨_, rfl⟩
  have hlen : M.length = L.length + n := by rw [hM, List.length_append, leL_len]
  rw [← hM] at hP1 ⊢
  obtain ⟨g, cap, rfl, hg1, hg2⟩ := hP1.row.form (by omega)
  have k1 : w1.cell? ⟨pb, 0, none⟩ = some (.slice (some ⟨g, 0, none⟩) M.length cap) := hP1.blk.cell 0
  have hl6 : M.length ≤ 60000 := by omega
  have fin : NumPost pb v0 M w (.returned (.tuple #[])) w1 := by
    refine ⟨rfl, _, hP1, ((Only.refl _ _).alloc _).trans hO1, ?_⟩
    rcases hB1 with h | h
    · exact .inl h
    · exact .inr (fun k hk => by have := h k hk; simp at this; omega)
  rw [hM] at fin
  have FIN := Lib.hid fin
  clear fin hP1 hO1 hB1 HA hbx d1 d2 d3 hne hb1 hM hlen
  go_wp2_with fail
  refine leaves_cons (f := 115) (args := #[.pointer (some ⟨w.heap.size, 0, none⟩)]) (by simp) (by simp [go_sem]) ?_
  refine (putF_idle _ _).mono ?_
  rintro e u' w'' ⟨rfl, rfl, rfl⟩
  simp [Leaves, settle, results, Tryz.results106, go_sem]
  exact FIN.out
set_option maxHeartbeats 400000 in
/-- (*Packer).Num. -/
theorem num_any (pb : Nat) (v0 : Value) (L : List UInt8) (v n : Nat) (hn : n = 2 ∨ n = 4) (hv : v < 256 ^ n) (hL : L.length ≤ 50000) (w : World) (h : PkAt w pb v0 L) :
    Calls Tryz.prog 88 #[.pointer (some ⟨pb, 0, none⟩), .int .u64 v, .int .i64 n] w (NumPost pb v0 (L ++ leL n v) w) := by
  have hmf : ∀ (fn : Fn) (first cap : Array Value) (w : World), (Instr.makeFunc fn first cap).run Tryz.prog w = .ok (.func fn first cap) w := fun _ _ _ _ => rfl
  have H := Lib.hid h
  have HV := Lib.hid hv
  clear h hv
  go_enter Tryz.func88, Tryz.ntmps88
  go_wp2_with fail
  have hb1 : Below w.heap.size w (((w.alloc (.cells #[.pointer (some ⟨pb, 0, none⟩)] 134)).alloc (.cells #[.int .u64 v] 107)).alloc (.cells #[.int .i64 n] 3)) :=
    (((Below.refl _ _).alloc (Nat.le_refl _) _).alloc (by simp) _).alloc (by simp; omega) _
  have c1 := (((Blk.new w #[.pointer (some ⟨pb, 0, none⟩)] 134).alloc (.cells #[.int .u64 v] 107)).alloc (.cells #[.int .i64 n] 3)).cell 0
  have c2 := ((Blk.new' (w.alloc (.cells #[.pointer (some ⟨pb, 0, none⟩)] 134)) #[.int .u64 v] 107 (n := w.heap.size + 1) (by simp)).alloc (.cells #[.int .i64 n] 3)).cell 0
  have c3 := (Blk.new' ((w.alloc (.cells #[.pointer (some ⟨pb, 0, none⟩)] 134)).alloc (.cells #[.int .u64 v] 107)) #[.int .i64 n] 3 (n := w.heap.size + 1 + 1) (by simp)).cell 0
  refine (put_num w.heap.size (w.heap.size + 1) (w.heap.size + 1 + 1) pb v0 L v n hn HV.out hL _ (H.out.grown hb1) c1 c2 c3).mono ?_
  rintro e w1 hp
  have hp' := hp.from hb1
  obtain ⟨rfl, hp2⟩ := hp'
  clear hp c1 c2 c3 hb1
  go_wp2_with fail
  go_end0
  exact ⟨rfl, hp2⟩
/-- (*Packer).Done. -/
theorem done_any (pb : Nat) (v0 : Value) (L : List UInt8) (hL : 0 < L.length) (w : World) (h : PkAt w pb v0 L) :
    Calls Tryz.prog 89 #[.pointer (some ⟨pb, 0, none⟩)] w fun e w' => e = .returned (.tuple #[.string ⟨L.toArray⟩, .int .i64 0]) ∧ w' = w := by
  obtain ⟨g, cap, rfl, hg1, hg2⟩ := h.row.form hL
  have e0 : w.cell? ⟨pb, 0, none⟩ = some (.slice (some ⟨g, 0, none⟩) L.length cap) := h.blk.cell 0
  have e1 : w.cell? ⟨pb, 1, none⟩ = some (.int .i64 0) := h.blk.cell 1
  have hc : Hid (∀ j (hj : j < L.length), w.cell? ⟨g, 0 + j, none⟩ = some (.int .u8 (L[j].toNat : Int))) := by
    refine Lib.hid (fun j hj => ?_)
    rcases h.row.2 with ⟨h0, _⟩ | ⟨g', cap', cur, h1, h2, h3, h4, h5, h6, h7⟩
    · cases h0
    · cases h1
      rw [Nat.zero_add]
      have e := congrArg (fun l : List Value => l[j]?) h7
      simp [hj, List.getElem?_take] at e
      have : w.cell? ⟨g, j, none⟩ = cur[j]? := by simp [World.cell?, h3]
      rw [this, e]
      rfl
  clear h
  go_enter Tryz.func89, Tryz.ntmps89
  go_wp2_with (first | ((with_reducible refine at_toStr sl_u8p u8_up str_up g 0 cap L L.length ?_ ?_ ?_ ?_); exact rfl; exact rfl; exact hc.out))
  go_ret2
  exact ⟨rfl, rfl⟩
end Go.Proofs.YtcakellhellddaaGreatDoor
namespace Go.Proofs.YtcakellhellddaaGreatDoor
open Go.RowKit
def lesL (n : Nat) (vs : List Nat) : List UInt8 := vs.flatMap (leL n)
theorem lesL_len (n : Nat) (vs : List Nat) : (lesL n vs).length = vs.length * n := by
  induction vs with
  | nil => simp [lesL]
  | cons a vs ih => simp only [lesL, List.flatMap_cons, List.length_append, leL_len] at *; rw [ih, List.length_cons, Nat.succ_mul]; omega
theorem lesL_take (n : Nat) (vs : List Nat) (i : Nat) (hi : i < vs.length) : lesL n (vs.take (i + 1)) = lesL n (vs.take i) ++ leL n vs[i] := by
  unfold lesL
  rw [List.take_succ_eq_append_getElem hi, List.flatMap_append, List.flatMap_cons, List.flatMap_nil, List.append_nil]
set_option maxHeartbeats 1000000 in
/-- frame.bytes: numbers of n bytes, put together. -/
theorem bytes_any (n : Nat) (hn : n = 2 ∨ n = 4) (vs : List Nat) (hv : ∀ v ∈ vs, v < 256 ^ n) (h0 : 0 < vs.length) (h9 : vs.length ≤ 9) (lb cap : Nat) (w : World)
    (hc : ∀ j (hj : j < vs.length), w.cell? ⟨lb, j, none⟩ = some (.int .u64 (vs[j] : Int))) :
    Calls Tryz.prog 73 #[.int .i64 n, .slice (some ⟨lb, 0, none⟩) vs.length cap] w fun e w' => e = .returned (.string ⟨(lesL n vs).toArray⟩) ∧ Below w.heap.size w w' := by
  have HC := Lib.hid hc
  have HV := Lib.hid hv
  clear hc hv
  go_enter Tryz.func73, Tryz.ntmps73
  go_wp2_with fail
  go_loopw [14] (fun x wr => ∃ (i : Nat) (v' : Value), i ≤ vs.length ∧ x = .int .i64 i ∧ PkAt wr w.heap.size v' (lesL n (vs.take i)) ∧ Below w.heap.size w wr) (fun x _ => vs.length - (intOf x).toNat)
  case atStart =>
    refine ⟨0, .slice none 0 0, Nat.zero_le _, rfl, ⟨Blk.new _ _ _, ⟨rfl, .inl ⟨rfl, rfl⟩⟩⟩, (Below.refl _ _).alloc (Nat.le_refl _) _⟩
  case round =>
    obtain ⟨i, v', hi, rfl, hP, hB⟩ := hrel
    have HP := Lib.hid hP
    have HB := Lib.hid hB
    clear hP hB
    by_cases hlt : i < vs.length
    · have hlb : lb < w.heap.size := World.block_lt_of_cell? w ⟨lb, i, none⟩ (HC.out i hlt)
      have ci : wr.cell? ⟨lb, i, none⟩ = some (.int .u64 (vs[i] : Int)) := (HB.out.cell (p := ⟨lb, i, none⟩) hlb).trans (HC.out i hlt)
      have hvi := Lib.hid (HV.out vs[i] (List.getElem_mem hlt))
      have hli : (lesL n (vs.take i)).length ≤ 50000 := by
        rw [lesL_len, List.length_take]
        have : min i vs.length * n ≤ 9 * 4 := Nat.mul_le_mul (by omega) (by omega)
        omega
      obtain ⟨vi, hvi2⟩ : ∃ vi, vi = vs[i] := ⟨_, rfl⟩
      rw [← hvi2] at ci hvi
      have HVI := Lib.hid hvi2
      clear hvi2
      have HL := Lib.hid hli
      clear hli
      go_wp2_with fail
      refine (num_any w.heap.size v' _ vi n hn hvi.out HL.out wr HP.out).mono ?_
      rintro e w1 ⟨rfl, v2, hP2, hO2, _⟩
      have HB2 : Hid (Below w.heap.size w w1) := Lib.hid (HB.out.trans (hO2.below HB.out.size (fun k hk hh => by
        rcases hh with h | h
        · omega
        · have := owns_block HP.out.row k h; omega)))
      have HP2 := Lib.hid hP2
      clear hP2 hO2
      go_wp2_with fail
      go_roundw
      case rel => exact ⟨i + 1, v2, by omega, by go_num, by rw [lesL_take n vs i hlt, ← HVI.out]; exact HP2.out, HB2.out⟩
      case measure => simp [intOf]; omega
    · have hil : i = vs.length := by omega
      have hP3 : Hid (PkAt wr w.heap.size v' (lesL n vs)) := by
        have := HP.out
        rw [hil, List.take_length] at this
        exact Lib.hid this
      have hpos : 0 < (lesL n vs).length := by rw [lesL_len]; exact Nat.mul_pos h0 (by omega)
      go_wp2_with fail
      refine (done_any w.heap.size v' (lesL n vs) hpos wr hP3.out).mono ?_
      rintro e w1 ⟨rfl, hw1⟩
      have hw1 := hw1.symm
      subst hw1
      go_wp2_with fail
      go_ret
      exact ⟨rfl, HB.out⟩
end Go.Proofs.YtcakellhellddaaGreatDoor
namespace Go.Proofs.YtcakellhellddaaGreatDoor
open Go.RowKit
/-- An opener in block ob that has s left. -/
def OpAt (w : World) (ob : Nat) (s : ByteArray) : Prop := Blk w ob #[.string s, .bool false] 130
theorem take_any (ob n : Nat) (s : ByteArray) (w : World) (h : OpAt w ob s) (hn : n ≤ s.size) (hs : s.size ≤ maxLen) :
    Calls Tryz.prog 105 #[.pointer (some ⟨ob, 0, none⟩), .int .i64 n] w fun e w' => e = .returned (.string (s.extract 0 n)) ∧ w' = w.setCell ⟨ob, 0, none⟩ (.string (s.extract n s.size)) := by
  have c0 : w.cell? ⟨ob, 0, none⟩ = some (.string s) := Blk.cell h 0
  have f0 := Blk.free h 0
  unfold maxLen at hs
  clear h
  go_enter Tryz.func105, Tryz.ntmps105
  go_wp2
  go_ret
  exact ⟨rfl, rfl⟩
theorem leNat_lt : ∀ l : List UInt8, Lib.leNat l < 256 ^ l.length
  | [] => by simp [Lib.leNat]
  | b :: l => by
    have h1 := leNat_lt l
    have h2 := b.toNat_lt
    rw [Lib.leNat, List.length_cons, Nat.pow_succ]
    omega
theorem or_next (a c i : Nat) (hi : i < 4) (ha : a < 256 ^ i) (hc : c < 256) : bits .or .u64 (a : Int) (IntKind.u64.wrap ((c : Int) * 2 ^ (8 * i))) = ((a + 256 ^ i * c : Nat) : Int) := by
  have h1 : (256 : Nat) ^ i = 2 ^ (8 * i) := by rw [Nat.pow_mul]
  have h2 : (2 : Nat) ^ (8 * i) ≤ 2 ^ 24 := Nat.pow_le_pow_right (by decide) (by omega)
  have h3 : c * 2 ^ (8 * i) < 2 ^ 33 := by
    have : c * 2 ^ (8 * i) ≤ 255 * 2 ^ 24 := Nat.mul_le_mul (by omega) h2
    omega
  have e1 : (c : Int) * 2 ^ (8 * i) = ((c * 2 ^ (8 * i) : Nat) : Int) := by simp
  have e2 : IntKind.u64.wrap ((c : Int) * 2 ^ (8 * i)) = ((c * 2 ^ (8 * i) : Nat) : Int) := by rw [e1, IntKind.wrap_u64]; omega
  rw [e2, Go.bits_join_low .u64 64 (by decide) (fun n h0 h1 => by rw [IntKind.wrap_u64]; omega) (8 * i) (a : Int) _ (by omega) ?_ ?_ (by omega) ?_ ?_]
  · rw [h1, Nat.mul_comm (2 ^ (8 * i)) c]; simp
  · have : a < 2 ^ (8 * i) := h1 ▸ ha
    exact_mod_cast this
  · have : a < 2 ^ 24 := Nat.lt_of_lt_of_le (h1 ▸ ha) h2
    have h4 : (a : Int) < 2 ^ 24 := by exact_mod_cast this
    omega
  · have : (c * 2 ^ (8 * i)) % 2 ^ (8 * i) = 0 := Nat.mul_mod_left _ _
    exact_mod_cast this
  · have h4 : ((c * 2 ^ (8 * i) : Nat) : Int) < 2 ^ 33 := by exact_mod_cast h3
    omega
theorem leNat_take (l : List UInt8) (i : Nat) (hi : i < l.length) : Lib.leNat (l.take (i + 1)) = Lib.leNat (l.take i) + 256 ^ i * l[i].toNat := by
  rw [List.take_succ_eq_append_getElem hi, Lib.leNat_append, List.length_take, Nat.min_eq_left (Nat.le_of_lt hi)]
  simp [Lib.leNat]
set_option maxHeartbeats 1000000 in
theorem onum_any (ob n : Nat) (hn : n = 2 ∨ n = 4) (s : ByteArray) (w : World) (h : OpAt w ob s) (hs : n ≤ s.size) (hs2 : s.size ≤ maxLen) :
    Calls Tryz.prog 86 #[.pointer (some ⟨ob, 0, none⟩), .int .i64 n] w fun e w' => e = .returned (.int .u64 (Lib.leNat (s.data.toList.take n))) ∧ Only (· = ob) w w' := by
  have H := Lib.hid h
  obtain ⟨t, ht⟩ : ∃ t, t = s.extract 0 n := ⟨_, rfl⟩
  have htl : t.data.toList = s.data.toList.take n := by rw [ht]; simp
  have htz : t.size = n := by rw [ht, ByteArray.size_extract]; omega
  rw [← htl]
  have HT := Lib.hid ht
  have HL := Lib.hid (show t.data.toList.length = n by simpa using htz)
  clear h ht htl
  go_enter Tryz.func86, Tryz.ntmps86
  go_wp2_with (go_at_call 104; refine (pkSize_any n (by omega) _).mono ?_; rintro e w1 ⟨rfl, hw1⟩; have hw1 := hw1.symm; subst hw1)
  refine (take_any ob n s _ H.out hs hs2).mono ?_
  rintro e w1 ⟨rfl, hw1⟩
  have HO1 : Hid (Only (· = ob) w w1) := Lib.hid (by rw [hw1]; exact (Only.refl (· = ob) w).setCell (p := ⟨ob, 0, none⟩) (fun _ => rfl) _)
  rw [← HT.out]
  clear hw1
  have htz' : t.size = n := htz
  clear htz
  go_wp2_with (first | ((with_reducible refine at_ofStr str_up sl_u8p u8_up t ?_ ?_); exact rfl))
  intro w2 cap hb2 hz2 hr2
  have HR2 := Lib.hid hr2
  have HO2 : Hid (Only (· = ob) w w2) := Lib.hid (HO1.out.trans (Only.of_below hb2))
  clear hr2 hb2 hz2
  rw [htz']
  go_wp2_with fail
  obtain ⟨l, hl⟩ : ∃ l, l = t.data.toList := ⟨_, rfl⟩
  have HLL := HL.out
  have HR3 := HR2.out
  rw [← hl] at HLL HR3
  have HLe := Lib.hid hl
  have HR := Lib.hid HR3
  have HN := Lib.hid HLL
  clear HR3 HLL hl HR2 HL HT
  have hnb : Hid (n ≤ 4) := Lib.hid (by omega)
  go_loopw [5, 18] (fun y x wr => ∃ i : Nat, i ≤ n ∧ x = .int .i64 i ∧ y = .int .u64 (Lib.leNat (l.take i)) ∧ wr = w2) (fun _ x _ => n - (intOf x).toNat)
  case atStart => exact ⟨0, Nat.zero_le _, rfl, rfl, rfl⟩
  case round =>
    obtain ⟨i, hi, rfl, rfl, rfl⟩ := hrel
    by_cases hlt : i < n
    · have hil : i < l.length := by rw [HN.out]; exact hlt
      have ci := (HR.out i hil).1
      obtain ⟨c, hc⟩ : ∃ c, c = l[i] := ⟨_, rfl⟩
      rw [← hc] at ci
      have HCi := Lib.hid hc
      clear hc
      have hi4 : i < 4 := by have := hnb.out; omega
      have hcl := c.toNat_lt
      have hnx : Hid (bits .or .u64 (Lib.leNat (l.take i) : Int) (IntKind.u64.wrap ((c.toNat : Int) * 2 ^ (8 * i))) = (Lib.leNat (l.take (i + 1)) : Int)) := by
        refine Lib.hid ?_
        have h1 := leNat_lt (l.take i)
        rw [List.length_take, Nat.min_eq_left (Nat.le_of_lt hil)] at h1
        rw [or_next _ _ i hi4 h1 hcl, leNat_take l i hil, HCi.out]
      generalize Lib.leNat (l.take i) = a at *
      go_wp2_with fail
      refine ⟨⟨i + 1, by omega, by go_num, by rw [hnx.out], trivial⟩, ?_⟩
      simp [intOf]; omega
    · have hin : i = n := by omega
      subst hin
      have hta : Hid (l.take i = t.data.toList) := Lib.hid (by rw [← HLe.out, ← HN.out, List.take_length])
      rw [hta.out]
      go_wp2_with fail
      go_ret
      exact ⟨rfl, HO2.out⟩
end Go.Proofs.YtcakellhellddaaGreatDoor
namespace Go.Proofs.YtcakellhellddaaGreatDoor
open Go.RowKit
set_option maxHeartbeats 400000 in
theorem getF_idle (bx : Nat) (w : World) :
    CallsD Tryz.prog 103 #[.pointer (some ⟨bx, 0, none⟩)] .returning w fun e u' w' => e = .returned (.tuple #[]) ∧ u' = .returning ∧ w' = w := by
  refine callsD_of_wpS Tryz.func103 rfl fun c₀ cs hu => ?_
  apply wpS_seq
  apply wpS_region
  simp [wpOpsS, go_sem, recoverD, hu, Tryz.ntmps103, Exit.thenS]
  refine wpS_of_wp ?_
  go_wp2
  cases c₀
  simp_all [bodyPostS, results, Tryz.results103]
/-- What the taking of a number leaves: it lies in block b3. -/
def TakPost (ob b3 : Nat) (r : Nat) (w : World) (e : Ending) (w' : World) : Prop :=
  e = .returned (.tuple #[]) ∧ Only (fun k => k = ob ∨ k = b3) w w' ∧ w'.cell? ⟨b3, 0, none⟩ = some (.int .u64 r)
theorem onumF_any (b1 b2 b3 ob n : Nat) (hn : n = 2 ∨ n = 4) (s : ByteArray) (w : World) (h : OpAt w ob s) (hs : n ≤ s.size) (hs2 : s.size ≤ maxLen) (hne : b3 ≠ ob)
    (c1 : w.cell? ⟨b1, 0, none⟩ = some (.pointer (some ⟨ob, 0, none⟩))) (c2 : w.cell? ⟨b2, 0, none⟩ = some (.int .i64 n)) (c3 : Blk w b3 #[.int .u64 0] 107) :
    Calls Tryz.prog 85 #[.pointer (some ⟨b1, 0, none⟩), .pointer (some ⟨b2, 0, none⟩), .pointer (some ⟨b3, 0, none⟩)] w (TakPost ob b3 (Lib.leNat (s.data.toList.take n)) w) := by
  have H := Lib.hid h
  have H3 := Lib.hid c3
  obtain ⟨r, hr⟩ : ∃ r, r = Lib.leNat (s.data.toList.take n) := ⟨_, rfl⟩
  rw [← hr]
  have HR := Lib.hid hr
  clear h c3 hr
  go_enter Tryz.func85, Tryz.ntmps85
  go_wp2_with fail
  refine (onum_any ob n hn s _ H.out hs hs2).mono ?_
  rw [← HR.out]
  rintro e w1 ⟨rfl, hO⟩
  have hb3 := hO.blk H3.out hne
  have d3 : w1.cell? ⟨b3, 0, none⟩ = some (.int .u64 0) := hb3.cell 0
  have f3 := hb3.free 0
  have HO := Lib.hid hO
  have HB := Lib.hid hb3
  clear hO hb3
  go_wp2_with fail
  go_end0
  refine ⟨rfl, (HO.out.mono (fun _ _ h => .inl h)).setCell (fun _ => .inr rfl) _, ?_⟩
  exact (HB.out.setCell 0 _).cell 0
set_option maxHeartbeats 1000000 in
theorem get_num (b1 b2 b3 ob n : Nat) (hn : n = 2 ∨ n = 4) (s : ByteArray) (w : World) (h : OpAt w ob s) (hs : n ≤ s.size) (hs2 : s.size ≤ maxLen) (hne : b3 ≠ ob)
    (c1 : w.cell? ⟨b1, 0, none⟩ = some (.pointer (some ⟨ob, 0, none⟩))) (c2 : w.cell? ⟨b2, 0, none⟩ = some (.int .i64 n)) (c3 : Blk w b3 #[.int .u64 0] 107) :
    Calls Tryz.prog 84 #[.pointer (some ⟨ob, 0, none⟩), .func (.func 85) #[] #[.pointer (some ⟨b1, 0, none⟩), .pointer (some ⟨b2, 0, none⟩), .pointer (some ⟨b3, 0, none⟩)]] w (TakPost ob b3 (Lib.leNat (s.data.toList.take n)) w) := by
  have hmf : ∀ (fn : Fn) (first cap : Array Value) (w : World), (Instr.makeFunc fn first cap).run Tryz.prog w = .ok (.func fn first cap) w := fun _ _ _ _ => rfl
  have e1 : w.cell? ⟨ob, 1, none⟩ = some (.bool false) := Blk.cell h 1
  have l1 := World.block_lt_of_cell? w _ c1
  have l2 := World.block_lt_of_cell? w _ c2
  have l3 := c3.lt
  have lo := Blk.lt h
  have H := Lib.hid h
  have H3 := Lib.hid c3
  clear h c3
  go_enter_defers Tryz.func84, Tryz.ntmps84
  go_wp2_with fail
  have HA : Hid (OpAt (w.alloc (.cells #[.pointer (some ⟨ob, 0, none⟩)] 108)) ob s) := Lib.hid (Blk.alloc H.out _)
  have d1 : (w.alloc (.cells #[.pointer (some ⟨ob, 0, none⟩)] 108)).cell? ⟨b1, 0, none⟩ = some (.pointer (some ⟨ob, 0, none⟩)) := (World.cell?_alloc_lt _ _ _ l1).trans c1
  have d2 : (w.alloc (.cells #[.pointer (some ⟨ob, 0, none⟩)] 108)).cell? ⟨b2, 0, none⟩ = some (.int .i64 n) := (World.cell?_alloc_lt _ _ _ l2).trans c2
  refine (onumF_any b1 b2 b3 ob n hn s _ HA.out hs hs2 hne d1 d2 (H3.out.alloc _)).mono ?_
  rintro e w1 ⟨rfl, hO, hc⟩
  have FIN : Hid (TakPost ob b3 (Lib.leNat (s.data.toList.take n)) w (.returned (.tuple #[])) w1) := Lib.hid ⟨rfl, ((Only.refl _ _).alloc _).trans hO, hc⟩
  clear hO hc HA d1 d2
  go_wp2_with fail
  refine leaves_cons (f := 103) (args := #[.pointer (some ⟨w.heap.size, 0, none⟩)]) (by simp) (by simp [go_sem]) ?_
  refine (getF_idle _ _).mono ?_
  rintro e u' w'' ⟨rfl, rfl, rfl⟩
  simp only [Leaves, settle]
  refine ⟨.tuple #[], ?_, FIN.out⟩
  simp [results, Tryz.results84, go_sem]
set_option maxHeartbeats 1000000 in
/-- (*Opener).Num. -/
theorem Onum_any (ob n : Nat) (hn : n = 2 ∨ n = 4) (s : ByteArray) (w : World) (h : OpAt w ob s) (hs : n ≤ s.size) (hs2 : s.size ≤ maxLen) :
    Calls Tryz.prog 70 #[.pointer (some ⟨ob, 0, none⟩), .int .i64 n] w fun e w' => e = .returned (.int .u64 (Lib.leNat (s.data.toList.take n))) ∧ Only (· = ob) w w' := by
  have hmf : ∀ (fn : Fn) (first cap : Array Value) (w : World), (Instr.makeFunc fn first cap).run Tryz.prog w = .ok (.func fn first cap) w := fun _ _ _ _ => rfl
  have lo := Blk.lt h
  have H := Lib.hid h
  clear h
  go_enter Tryz.func70, Tryz.ntmps70
  go_wp2_with fail
  have hb1 : Below w.heap.size w (((w.alloc (.cells #[.pointer (some ⟨ob, 0, none⟩)] 108)).alloc (.cells #[.int .i64 n] 3)).alloc (.cells #[.int .u64 0] 107)) :=
    (((Below.refl _ _).alloc (Nat.le_refl _) _).alloc (by simp) _).alloc (by simp; omega) _
  have c1 := (((Blk.new w #[.pointer (some ⟨ob, 0, none⟩)] 108).alloc (.cells #[.int .i64 n] 3)).alloc (.cells #[.int .u64 0] 107)).cell 0
  have c2 := ((Blk.new' (w.alloc (.cells #[.pointer (some ⟨ob, 0, none⟩)] 108)) #[.int .i64 n] 3 (n := w.heap.size + 1) (by simp)).alloc (.cells #[.int .u64 0] 107)).cell 0
  have c3 := (Blk.new' ((w.alloc (.cells #[.pointer (some ⟨ob, 0, none⟩)] 108)).alloc (.cells #[.int .i64 n] 3)) #[.int .u64 0] 107 (n := w.heap.size + 1 + 1) (by simp))
  refine (get_num w.heap.size (w.heap.size + 1) (w.heap.size + 1 + 1) ob n hn s _ (Blk.below H.out hb1 lo) hs hs2 (by omega) c1 c2 c3).mono ?_
  rintro e w1 ⟨rfl, hO, hcell⟩
  have HO : Hid (Only (· = ob) w w1) := Lib.hid ⟨hO.os.trans hb1.os, hO.tape.trans hb1.tape, hO.output.trans hb1.output, Nat.le_trans hb1.size hO.size, fun k hk hs => (hO.block k (Nat.lt_of_lt_of_le hk hb1.size) (by rintro (h | h); exact hs h; omega)).trans (hb1.block k hk)⟩
  obtain ⟨r, hr⟩ : ∃ r, r = Lib.leNat (s.data.toList.take n) := ⟨_, rfl⟩
  rw [← hr] at hcell
  have HR := Lib.hid hr
  clear hO c1 c2 c3 hb1 hr
  go_wp2_with fail
  go_ret
  exact ⟨by rw [← HR.out]; rfl, HO.out⟩
theorem open_any (s : ByteArray) (w : World) :
    Calls Tryz.prog 69 #[.string s] w fun e w' => e = .returned (.pointer (some ⟨w.heap.size, 0, none⟩)) ∧ w' = w.alloc (.cells #[.string s, .bool false] 130) := by
  go_enter Tryz.func69, Tryz.ntmps69
  go_wp2
  go_ret
  exact ⟨rfl, rfl⟩
/-- The number that a text begins with. -/
def numF (k : Nat) (s : ByteArray) : Nat := Lib.leNat (s.data.toList.take k)
theorem numF_lt (k : Nat) (s : ByteArray) : numF k s < 256 ^ k := by
  unfold numF
  have h := leNat_lt (s.data.toList.take k)
  refine Nat.lt_of_lt_of_le h (Nat.pow_le_pow_right (by decide) ?_)
  rw [List.length_take]; omega
theorem number_any (s : ByteArray) (hs : 4 ≤ s.size) (hs2 : s.size ≤ maxLen) (w : World) :
    Calls Tryz.prog 59 #[.string s] w fun e w' => e = .returned (.int .u32 (numF 4 s)) ∧ Below w.heap.size w w' := by
  go_enter Tryz.func59, Tryz.ntmps59
  go_wp2_with fail
  refine (open_any s _).mono ?_
  rintro e w1 ⟨rfl, rfl⟩
  go_wp2_with fail
  refine (Onum_any w.heap.size 4 (.inr rfl) s _ (Blk.new _ _ _) hs hs2).mono ?_
  rintro e w1 ⟨rfl, hO⟩
  have HB : Hid (Below w.heap.size w w1) := Lib.hid (((Below.refl _ _).alloc (Nat.le_refl _) _).trans (hO.below (by simp) (fun k hk h => by omega)))
  have hlt : numF 4 s < 4294967296 := numF_lt 4 s
  have he : Lib.leNat (s.data.toList.take 4) = numF 4 s := rfl
  rw [he]
  obtain ⟨r, hr⟩ : ∃ r, r = numF 4 s := ⟨_, rfl⟩
  rw [← hr] at hlt ⊢
  have HR := Lib.hid hr
  clear he hO hr
  go_wp2_with fail
  go_ret
  exact ⟨by rw [← HR.out]; rfl, HB.out⟩
end Go.Proofs.YtcakellhellddaaGreatDoor
