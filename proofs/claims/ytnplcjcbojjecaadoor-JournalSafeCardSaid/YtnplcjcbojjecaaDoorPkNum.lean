import Derived.Test.YtnplcjcbojjecaaDoorSteps
import Derived.Test.YtnplcjcbojjecaaDoorMp
import Derived.Test.YtnplcjcbojjecaaDoorProg
set_option linter.unusedSimpArgs false
set_option linter.unusedVariables false
namespace Go.Proofs.YtnplcjcbojjecaaDoor
open Go.RowKit
/-! package pack: numbers' bytes, put behind one another. -/
/-- n bytes of v, the lowest first. -/
def leL (n v : Nat) : List UInt8 := (List.range n).map fun i => UInt8.ofNat (v / 2 ^ (8 * i) % 256)
theorem leL_succ (n v : Nat) : leL (n + 1) v = leL n v ++ [UInt8.ofNat (v / 2 ^ (8 * n) % 256)] := by simp [leL, List.range_succ]
theorem leL_len (n v : Nat) : (leL n v).length = n := by simp [leL]
def u8v (x : UInt8) : Value := .int .u8 (x.toNat : Int)
theorem sl_u8p : Tryd.prog.underlying 74 = some (.slice 5) := by kernel_rfl
theorem u8_infop : (Tryd.prog.info? 5).map (fun i => (i.zero, i.size, i.bytes)) = some (some (.int .u8 0), 1, 1) := by kernel_rfl
/-- A packer in block pb that holds the bytes L. -/
structure PkAt (w : World) (pb : Nat) (v : Value) (L : List UInt8) : Prop where
  blk : Blk w pb #[v, .int .i64 0] 106
  row : w.ownsRow (pb + 1) 5 1 v L.length (L.map u8v)
/-- What a packer's work may turn: its block, its row. -/
def pkOwn (pb : Nat) (v : Value) : Nat → Prop := fun k => k = pb ∨ v.ownBlock = some k
theorem pkSize_any (n : Nat) (hn : n = 1 ∨ n = 2 ∨ n = 4 ∨ n = 8) (w : World) :
    Calls Tryd.prog 98 #[.int .i64 n] w fun e w' => e = .returned (.bool true) ∧ w' = w := by
  rcases hn with rfl | rfl | rfl | rfl
  all_goals
    go_enter Tryd.func98, Tryd.ntmps98
    go_wp2
    go_ret
    exact ⟨rfl, rfl⟩
theorem Only.grown {S : Nat → Prop} {w w2 w3 : World} {row : Option Nat} (h : Only S w w2) (hg : w2.grownBy w3 row) (hr : ∀ k, row = some k → k < w.heap.size → S k) : Only S w w3 :=
  ⟨hg.os.trans h.os, hg.tape.trans h.tape, hg.output.trans h.output, Nat.le_trans h.size hg.size, fun k hk hs =>
    (hg.block k (Nat.lt_of_lt_of_le hk h.size) (fun e => hs (hr k e.symm hk))).trans (h.block k hk hs)⟩
set_option maxHeartbeats 1000000 in
theorem pknum_any (pb : Nat) (v0 : Value) (L : List UInt8) (v n : Nat) (hn : n = 2 ∨ n = 4) (hv : v < 256 ^ n) (hL : L.length ≤ 100000) (w : World) (h : PkAt w pb v0 L) :
    Calls Tryd.prog 92 #[.pointer (some ⟨pb, 0, none⟩), .int .u64 v, .int .i64 n] w fun e w' => e = .returned (.tuple #[]) ∧
      ∃ v', PkAt w' pb v' (L ++ leL n v) ∧ Only (pkOwn pb v0) w w' ∧ (v'.ownBlock = v0.ownBlock ∨ ∀ k, v'.ownBlock = some k → w.heap.size ≤ k) := by
  have H := Lib.hid h
  clear h
  have hsh : ((v : Int) / 2 ^ (8 * n) != 0) = false := by
    have h1 : v / 2 ^ (8 * n) = 0 := Nat.div_eq_of_lt (by rw [Nat.pow_mul]; exact hv)
    have h2 : (v : Int) / 2 ^ (8 * n) = ((v / 2 ^ (8 * n) : Nat) : Int) := by simp
    rw [h2, h1]; rfl
  have hnb : Hid (n ≤ 4) := Lib.hid (by omega)
  go_enter Tryd.func92, Tryd.ntmps92
  go_wp2_with (go_at_call 98; refine (pkSize_any n (by omega) _).mono ?_; rintro e w1 ⟨rfl, hw1⟩; have hw1 := hw1.symm; subst hw1)
  clear hsh
  go_loopw [23] (fun x wr => ∃ (i : Nat) (v' : Value), i ≤ n ∧ x = .int .i64 i ∧ PkAt wr pb v' (L ++ leL i v) ∧ Only (pkOwn pb v0) w wr ∧ (v'.ownBlock = v0.ownBlock ∨ ∀ k, v'.ownBlock = some k → w.heap.size ≤ k)) (fun x _ => n - (intOf x).toNat)
  case atStart => exact ⟨0, v0, by omega, rfl, by simpa [leL] using H.out, Only.refl _ _, .inl rfl⟩
  case round =>
    obtain ⟨i, v', hi, rfl, hP, hO, hB⟩ := hrel
    obtain ⟨M, hM⟩ : ∃ M, M = L ++ leL i v := ⟨_, rfl⟩
    have hlen : M.length ≤ 100004 := by rw [hM, List.length_append, leL_len]; have := hnb.out; omega
    rw [← hM] at hP
    have HM := Lib.hid hM
    clear hM
    have HP := Lib.hid hP
    have HO := Lib.hid hO
    have HB := Lib.hid hB
    have c0 : wr.cell? ⟨pb, 0, none⟩ = some v' := hP.blk.cell 0
    clear hP hO hB
    by_cases hlt : i < n
    · have hi4 : i < 4 := by have := hnb.out; omega
      have hw8 : Hid (IntKind.i64.wrap (8 * (i : Int)) = 8 * (i : Int)) := Lib.hid (by rw [IntKind.wrap_i64]; omega)
      have hby : Hid (IntKind.u8.wrap ((v : Int) / 2 ^ (8 * (i : Int)).toNat) = ((UInt8.ofNat (v / 2 ^ (8 * i) % 256)).toNat : Int)) := by
        refine Lib.hid ?_
        have e1 : (8 * (i : Int)).toNat = 8 * i := by omega
        have e2 : (v : Int) / 2 ^ (8 * i) = ((v / 2 ^ (8 * i) : Nat) : Int) := by simp
        rw [e1, e2, IntKind.wrap_u8, UInt8.toNat_ofNat']
        omega
      obtain ⟨x, hx⟩ : ∃ x, x = UInt8.ofNat (v / 2 ^ (8 * i) % 256) := ⟨_, rfl⟩
      rw [← hx] at hby
      have HX := Lib.hid hx
      clear hx
      go_wp2_with fail
      refine wp_region_gate (fun w1 => w1.cell? ⟨pb, 0, none⟩ = some v') 11 (by kernel_rfl) ?_ (fun hHeld => ?_)
      · exact c0
      refine take_gop0 0 (some 26) (v := ?_) rfl rfl (by kernel_rfl) (by kernel_rfl) (by kernel_rfl) (by kernel_rfl) (fun _ _ _ h => h) (Or.inl ⟨by rfl, ?_⟩) (by first | exact fun _ => by assumption | exact fun h => absurd h (by decide)) ?_
      rotate_left
      · intro w_ hSw_; (try dsimp only at hSw_); go_simp; (try with_reducible rfl)
      try simp only [Act.put, List.setIfInBounds_toArray, List.set_cons_zero, List.set_cons_succ]
      refine take_gop0 1 (some 27) (v := ?_) rfl rfl (by kernel_rfl) (by kernel_rfl) (by kernel_rfl) (by kernel_rfl) (fun _ _ _ h => h) (Or.inl ⟨by rfl, ?_⟩) (by first | exact fun _ => by assumption | exact fun h => absurd h (by decide)) ?_
      rotate_left
      · intro w_ hSw_; (try dsimp only at hSw_); go_simp; (try with_reducible rfl)
      try simp only [Act.put, List.setIfInBounds_toArray, List.set_cons_zero, List.set_cons_succ]
      refine take_gop0 2 (some 28) (v := ?_) rfl rfl (by kernel_rfl) (by kernel_rfl) (by kernel_rfl) (by kernel_rfl) (fun _ _ _ h => h) (Or.inl ⟨by rfl, ?_⟩) (by first | exact fun _ => by assumption | exact fun h => absurd h (by decide)) ?_
      rotate_left
      · intro w_ hSw_; (try dsimp only at hSw_); go_simp; (try with_reducible rfl)
      try simp only [Act.put, List.setIfInBounds_toArray, List.set_cons_zero, List.set_cons_succ]
      refine take_gop0 3 (some 29) (v := ?_) rfl rfl (by kernel_rfl) (by kernel_rfl) (by kernel_rfl) (by kernel_rfl) (fun _ _ _ h => h) (Or.inl ⟨by rfl, ?_⟩) (by first | exact fun _ => by assumption | exact fun h => absurd h (by decide)) ?_
      rotate_left
      · intro w_ hSw_; (try dsimp only at hSw_); go_simp; (try with_reducible rfl)
      try simp only [Act.put, List.setIfInBounds_toArray, List.set_cons_zero, List.set_cons_succ]
      refine take_gop 4 (some 30) (v := ?_) rfl rfl (by kernel_rfl) (by kernel_rfl) (by kernel_rfl) (by kernel_rfl) (fun _ _ _ h => h) (Or.inl ⟨by rfl, ?_⟩) (by assumption) ?_
      rotate_left
      · intro w_ hSw_; (try dsimp only at hSw_); go_simp; (try with_reducible rfl)
      try simp only [Act.put, List.setIfInBounds_toArray, List.set_cons_zero, List.set_cons_succ]
      refine take_gop0 5 (some 31) (v := ?_) rfl rfl (by kernel_rfl) (by kernel_rfl) (by kernel_rfl) (by kernel_rfl) (fun _ _ _ h => h) (Or.inl ⟨by rfl, ?_⟩) (by first | exact fun _ => by assumption | exact fun h => absurd h (by decide)) ?_
      rotate_left
      · intro w_ hSw_; (try dsimp only at hSw_); go_simp; (try with_reducible rfl)
      try simp only [Act.put, List.setIfInBounds_toArray, List.set_cons_zero, List.set_cons_succ]
      refine take_gop0 6 (some 32) (v := ?_) rfl rfl (by kernel_rfl) (by kernel_rfl) (by kernel_rfl) (by kernel_rfl) (fun _ _ _ h => h) (Or.inl ⟨by rfl, ?_⟩) (by first | exact fun _ => by assumption | exact fun h => absurd h (by decide)) ?_
      rotate_left
      · intro w_ hSw_; (try dsimp only at hSw_); go_simp; (try with_reducible rfl)
      try simp only [Act.put, List.setIfInBounds_toArray, List.set_cons_zero, List.set_cons_succ]
      refine take_gop0 7 (some 33) (v := ?_) rfl rfl (by kernel_rfl) (by kernel_rfl) (by kernel_rfl) (by kernel_rfl) (fun _ _ _ h => h) (Or.inl ⟨by rfl, ?_⟩) (by first | exact fun _ => by assumption | exact fun h => absurd h (by decide)) ?_
      rotate_left
      · intro w_ hSw_; (try dsimp only at hSw_); go_simp; (try with_reducible rfl)
      try simp only [Act.put, List.setIfInBounds_toArray, List.set_cons_zero, List.set_cons_succ]
      rw [hw8.out]
      refine take_gop0 8 (some 34) (v := ?_) rfl rfl (by kernel_rfl) (by kernel_rfl) (by kernel_rfl) (by kernel_rfl) (fun _ _ _ h => h) (Or.inl ⟨by rfl, ?_⟩) (by first | exact fun _ => by assumption | exact fun h => absurd h (by decide)) ?_
      rotate_left
      · intro w_ hSw_; (try dsimp only at hSw_); go_simp; (try with_reducible rfl)
      try simp only [Act.put, List.setIfInBounds_toArray, List.set_cons_zero, List.set_cons_succ]
      refine take_gop0 9 (some 35) (v := ?_) rfl rfl (by kernel_rfl) (by kernel_rfl) (by kernel_rfl) (by kernel_rfl) (fun _ _ _ h => h) (Or.inl ⟨by rfl, ?_⟩) (by first | exact fun _ => by assumption | exact fun h => absurd h (by decide)) ?_
      rotate_left
      · intro w_ hSw_; (try dsimp only at hSw_); go_simp; (try with_reducible rfl)
      try simp only [Act.put, List.setIfInBounds_toArray, List.set_cons_zero, List.set_cons_succ]
      rw [hby.out]
      refine go_gopS 10 rfl (by kernel_rfl) (fun K_ hK_ => ?_)
      go_simp
      have hlw : (wr.alloc (.cells #[.int .u8 (x.toNat : Int)] 5)).drew.heap.size = wr.heap.size + 1 := by simp
      have hbz := Blk.new wr #[Value.int .u8 (x.toNat : Int)] 5
      have HP2 : Hid (PkAt (wr.alloc (.cells #[.int .u8 (x.toNat : Int)] 5)).drew pb v' M) := Lib.hid ⟨(HP.out.blk.alloc _).drew, owns_below (B := wr.heap.size) HP.out.row (((Below.refl _ _).alloc (Nat.le_refl _) _).drew) (Nat.le_refl _)⟩
      have HO2 : Hid (Only (pkOwn pb v0) w (wr.alloc (.cells #[.int .u8 (x.toNat : Int)] 5)).drew) := Lib.hid ((HO.out.alloc _).drew)
      have cz : (wr.alloc (.cells #[.int .u8 (x.toNat : Int)] 5)).drew.cell? ⟨wr.heap.size, 0, none⟩ = some (.int .u8 (x.toNat : Int)) := hbz.drew.cell 0
      have c2 : (wr.alloc (.cells #[.int .u8 (x.toNat : Int)] 5)).drew.cell? ⟨pb, 0, none⟩ = some v' := HP2.out.blk.cell 0
      have hs2 : pb + 1 ≤ (wr.alloc (.cells #[.int .u8 (x.toNat : Int)] 5)).drew.heap.size := HP2.out.blk.lt
      have hpr := HP.out.blk.lt
      clear HP HO hbz
      revert hlw HP2 HO2 cz c2 hs2
      generalize (wr.alloc (.cells #[.int .u8 (x.toNat : Int)] 5)).drew = w2
      intro hlw HP2 HO2 cz c2 hs2
      refine hK_.out _ _ ?_ (fun hHeld_ => ?_)
      · exact c2
      refine go_gopF 11 rfl (by kernel_rfl) (by kernel_rfl) (fun K_ hK_ => ?_)
      refine step_app sl_u8p u8_infop rfl (some 37) rfl rfl rfl (pb + 1) v' M.length (M.map u8v) rfl HP2.out.row ⟨wr.heap.size, 0, none⟩ 1 (u8v x) rfl cz rfl (by unfold maxLen; omega) (by omega) hs2 ?_
      intro g cap w3 hown hgrow hat hlt3
      have hbl := owns_block HP2.out.row
      have hpg : pb + 1 ≤ g := by
        rcases hat with h | h
        · exact hbl _ h
        · omega
      have hb3 : Blk w3 pb #[v', .int .i64 0] 106 := (hgrow.block _ HP2.out.blk.lt (fun e => by have := hbl _ e.symm; omega)).trans HP2.out.blk
      have HO3 : Hid (Only (pkOwn pb v0) w w3) := Lib.hid (HO2.out.grown hgrow (fun k hk hlt => by
        rcases HB.out with h | h
        · exact .inr (h ▸ hk)
        · exact absurd (h k hk) (by omega)))
      have HB3 : Hid (some g = v0.ownBlock ∨ w.heap.size ≤ g) := Lib.hid (by
        rcases hat with h | h
        · rcases HB.out with h1 | h1
          · exact .inl (h.symm.trans h1)
          · exact .inr (h1 g h)
        · have := HO2.out.size
          exact .inr (by omega))
      have c3 : w3.cell? ⟨pb, 0, none⟩ = some v' := hb3.cell 0
      have f3 := hb3.free 0
      have HR := Lib.hid hown
      have H3 := Lib.hid hb3
      clear hown hb3 hgrow hat hbl HP2 HO2 HB c2 cz hs2 hHeld c0
      simp only [Act.put, List.setIfInBounds_toArray, List.set_cons_zero, List.set_cons_succ]
      refine hK_.out _ _ ?_
      refine take_gop0 12 (some 38) (v := ?_) rfl rfl (by kernel_rfl) (by kernel_rfl) (by kernel_rfl) (by kernel_rfl) (fun _ _ _ h => h) (Or.inl ⟨by rfl, ?_⟩) (by first | exact fun _ => by assumption | exact fun h => absurd h (by decide)) ?_
      rotate_left
      · intro w_ hSw_; (try dsimp only at hSw_); go_simp; (try with_reducible rfl)
      try simp only [Act.put, List.setIfInBounds_toArray, List.set_cons_zero, List.set_cons_succ]
      refine take_gop0 13 (some 39) (v := ?_) rfl rfl (by kernel_rfl) (by kernel_rfl) (by kernel_rfl) (by kernel_rfl) (fun _ _ _ h => h) (Or.inl ⟨by rfl, ?_⟩) (by first | exact fun _ => by assumption | exact fun h => absurd h (by decide)) ?_
      rotate_left
      · intro w_ hSw_; (try dsimp only at hSw_); go_simp; (try with_reducible rfl)
      try simp only [Act.put, List.setIfInBounds_toArray, List.set_cons_zero, List.set_cons_succ]
      refine go_gopF 14 rfl (by kernel_rfl) (by kernel_rfl) (fun K_ hK_ => ?_)
      go_simp
      refine hK_.out _ _ ?_
      refine AnyG.done (by kernel_rfl) ?_ _
      go_wp2
      go_roundw
      case rel =>
        refine ⟨i + 1, .slice (some ⟨g, 0, none⟩) (M.length + 1) cap, by omega, by go_num, ⟨H3.out.setCell 0 _, ?_⟩, HO3.out.setCell (fun _ => .inl rfl) _, ?_⟩
        · have e1 : L ++ leL (i + 1) v = M ++ [x] := by rw [HM.out, leL_succ, ← HX.out, List.append_assoc]
          rw [e1, List.length_append, List.map_append]
          refine ⟨HR.out.1, ?_⟩
          rcases HR.out.2 with ⟨h, _⟩ | ⟨g', cap', cur, h1, h2, h3, h4⟩
          · cases h
          · refine .inr ⟨g', cap', cur, h1, h2, ?_, h4⟩
            cases h1
            exact (Below.heap_setCell _ _ _ _ (show g ≠ pb by omega)).trans h3
        · rcases HB3.out with h | h
          · exact .inl h
          · refine .inr (fun k hk => ?_)
            have : g = k := by simpa [Value.ownBlock] using hk
            omega
      case measure => simp [intOf]; omega
    · have hin : i = n := by omega
      subst hin
      go_wp2
      go_end0
      exact ⟨rfl, v', HM.out ▸ HP.out, HO.out, HB.out⟩
end Go.Proofs.YtnplcjcbojjecaaDoor
