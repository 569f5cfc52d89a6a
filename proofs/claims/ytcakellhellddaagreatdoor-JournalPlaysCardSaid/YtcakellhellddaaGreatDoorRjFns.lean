import Derived.Test.YtcakellhellddaaGreatDoorJoLaw
import Derived.Test.YtcakellhellddaaGreatDoorDiskSame
import Derived.Test.YtcakellhellddaaGreatDoorFrWakes
set_option linter.unusedSimpArgs false
set_option linter.unusedVariables false
namespace Go.Proofs.YtcakellhellddaaGreatDoor
open Go.RowKit
/-! The reference's journal: its small functions. -/
theorem RefAt.cell0 {w : World} {b sb : Nat} {m : DM} (h : RefAt w b sb m) : ∃ cap, w.cell? ⟨b, 0, none⟩ = some (.slice (some ⟨sb, 0, none⟩) m.S.length cap) ∧ m.S.length ≤ cap ∧ cap ≤ maxLen := by
  obtain ⟨_, _, l, cap, cur, hb, _, h1, h2, _⟩ := h
  exact ⟨cap, hb.cell 0, h1, h2⟩
theorem rjFits_any (b sb : Nat) (m : DM) (w : World) (h : RefAt w b sb m) : Calls Tryz.prog 38 #[.pointer (some ⟨b, 0, none⟩)] w fun e w' => e = .returned (.bool (decide (jsize m ≠ 0))) ∧ Below w.heap.size w w' := by
  obtain ⟨cap, c0, hc1, hc2⟩ := h.cell0
  have hlen := h.wf.len
  obtain ⟨n, hn⟩ : ∃ n, n = m.S.length := ⟨_, rfl⟩
  rw [← hn] at c0 hlen hc1
  have HN := Lib.hid hn
  unfold maxLen at hc2
  clear h hn
  by_cases h8 : n < 8
  · have g1 : ¬ 8 ≤ (n : Int) := by omega
    have hj : Hid (jsize m = 0) := Lib.hid (by unfold jsize; rw [← HN.out, if_pos (.inl h8)])
    clear h8
    go_enter Tryz.func38, Tryz.ntmps38
    go_wp2_with fail
    go_ret
    exact ⟨by rw [hj.out]; rfl, Below.refl _ _⟩
  · have g1 : 8 ≤ (n : Int) := by omega
    by_cases h2 : n % 2 = 0
    · have g2 : (n : Int) % 2 = 0 := by omega
      have g3 : Int.tmod (n : Int) 2 = 0 := by rw [Int.tmod_eq_emod_of_nonneg (by omega)]; exact g2
      have hj : Hid (jsize m ≠ 0) := Lib.hid (by unfold jsize; rw [← HN.out, if_neg (by omega)]; omega)
      clear h2
      go_enter Tryz.func38, Tryz.ntmps38
      go_wp2_with fail
      go_ret
      exact ⟨by rw [decide_eq_true hj.out]; rfl, Below.refl _ _⟩
    · have g2 : (n : Int) % 2 = 1 := by omega
      have g3 : Int.tmod (n : Int) 2 = 1 := by rw [Int.tmod_eq_emod_of_nonneg (by omega)]; exact g2
      have hj : Hid (jsize m = 0) := Lib.hid (by unfold jsize; rw [← HN.out, if_pos (.inr h2)])
      clear h2
      go_enter Tryz.func38, Tryz.ntmps38
      go_wp2_with fail
      go_ret
      exact ⟨by rw [hj.out]; rfl, Below.refl _ _⟩
theorem rjRoom_any (b sb : Nat) (m : DM) (hz : jsize m ≠ 0) (w : World) (h : RefAt w b sb m) : Calls Tryz.prog 40 #[.pointer (some ⟨b, 0, none⟩)] w fun e w' => e = .returned (.int .i64 (jsize m : Int)) ∧ w' = w := by
  obtain ⟨cap, c0, hc1, hc2⟩ := h.cell0
  have hlen := h.wf.len
  have hf := jsize_facts hz
  obtain ⟨n, hn⟩ : ∃ n, n = m.S.length := ⟨_, rfl⟩
  obtain ⟨z, hz2⟩ : ∃ z, z = jsize m := ⟨_, rfl⟩
  rw [← hn] at c0 hlen hf
  rw [← hz2] at hf ⊢
  have hf2 := hf.2
  have he : Hid (((n : Int) - 2) / 2 = (z : Int)) := Lib.hid (by omega)
  have hn8 : 8 ≤ n := hf.1
  clear h hn hz2 hz hc1 hc2 hf hf2
  go_enter Tryz.func40, Tryz.ntmps40
  go_wp2_with fail
  go_ret
  exact ⟨by rw [← he.out]; rfl, rfl⟩
theorem rjStart_any (b sb : Nat) (m : DM) (hz : jsize m ≠ 0) (area : Nat) (ha : area ≤ 1) (w : World) (h : RefAt w b sb m) : Calls Tryz.prog 44 #[.pointer (some ⟨b, 0, none⟩), .int .i64 area] w fun e w' => e = .returned (.int .i64 (firstF m area : Int)) ∧ w' = w := by
  have HR := Lib.hid h
  have hjl := jsize_le h.wf
  go_enter Tryz.func44, Tryz.ntmps44
  go_wp2_with fail
  refine (rjRoom_any b sb m hz _ HR.out).mono ?_
  rintro e w1 ⟨rfl, hw1⟩
  have hw1 := hw1.symm
  subst hw1
  have hf : Hid ((firstF m area : Int) = 2 + (area : Int) * (jsize m : Int)) := Lib.hid (by unfold firstF; push_cast; rfl)
  obtain ⟨z, hz2⟩ : ∃ z, z = jsize m := ⟨_, rfl⟩
  rw [← hz2] at hjl hf ⊢
  clear hz2
  obtain ⟨p, hp⟩ : ∃ p, p = (area : Int) * (z : Int) := ⟨_, rfl⟩
  have hpb : 0 ≤ p ∧ p ≤ 4096 := by
    rcases (by omega : area = 0 ∨ area = 1) with h | h
    · subst h; rw [hp]; simp; 
    · subst h; rw [hp]; simp; omega
  rw [← hp] at hf
  have hw1 : Go.RowKit.wrap64 ((area : Int) * (z : Int)) = p := by rw [← hp]; unfold Go.RowKit.wrap64; omega
  clear hp
  go_wp2_with fail
  go_ret
  exact ⟨by rw [hf.out]; rfl, rfl⟩
theorem rjHead_any (area : Nat) (ha : area ≤ 1) (w : World) : Calls Tryz.prog 45 #[.int .i64 area] w fun e w' => e = .returned (.string (headB area)) ∧ Below w.heap.size w w' := by
  have mw : IntKind.u8.wrap (area : Int) = (area : Int) := by
    rcases (by omega : area = 0 ∨ area = 1) with rfl | rfl <;> rfl
  have hu := Blk.new w #[.int .u8 (area : Int)] 5
  have hc : ∀ j (hj : j < [UInt8.ofNat area].length), (w.alloc (.cells #[.int .u8 (area : Int)] 5)).cell? ⟨w.heap.size, 0 + j, none⟩ = some (.int .u8 ([UInt8.ofNat area][j].toNat : Int)) := by
    intro j hj
    rw [Nat.zero_add, hu.cell j]
    match j, hj with
    | 0, _ => rcases (by omega : area = 0 ∨ area = 1) with rfl | rfl <;> rfl
  have HC := Lib.hid hc
  have HA := Lib.hid ha
  clear hc hu ha
  go_enter Tryz.func45, Tryz.ntmps45
  go_wp2_with (first | ((with_reducible refine at_toStr sl_u8p u8_up str_up w.heap.size 0 1 [UInt8.ofNat area] 1 ?_ ?_ ?_ ?_); exact rfl; exact rfl; exact HC.out))
  go_ret
  have hcat : (⟨#[74]⟩ : ByteArray) ++ ⟨#[UInt8.ofNat area]⟩ = headB area := by
    apply ba_ext
    rw [ByteArray.data_append]; rfl
  exact ⟨by rw [← hcat]; rfl, (Below.refl _ _).alloc (Nat.le_refl _) _⟩
set_option maxHeartbeats 4000000 in
/-- A record's sectors written, the last one first. -/
theorem rjWrite_any (b sb : Nat) (m : DM) (at_ : Nat) (hat : at_ ≤ 100000) (num : Nat) (h0 : 0 < num) (hn : num < 4294967296) (s : ByteArray) (hs : s.size ≤ 60000) (w : World) (h : RefAt w b sb m) :
    Calls Tryz.prog 43 #[.pointer (some ⟨b, 0, none⟩), .int .i64 at_, .int .u32 num, .string s] w fun e w' => e = .returned (.int .i64 (writeF m at_ num s).2) ∧ RefAt w' b sb (writeF m at_ num s).1 ∧ Only (own2 b sb) w w' := by
  have HR := Lib.hid h
  obtain ⟨lb, lsb⟩ := h.lt
  have hmk := makeF_some num s h0 hs
  have hwr : Hid (writeF m at_ num s = wrF m at_ (secsF num s) (sizeN s.size)) := Lib.hid (by unfold writeF; rw [hmk, if_neg (by simp), secsF_len])
  have hsn := sizeN_le hs
  clear h
  go_enter Tryz.func43, Tryz.ntmps43
  go_wp2_with fail
  refine (rfMake_any num s _ h0 hn hs).mono ?_
  rintro e w1 ⟨v, rfl, hb1, ho1⟩
  obtain ⟨l, hl⟩ : ∃ l, l = secsF num s := ⟨_, rfl⟩
  have hll : l.length = sizeN s.size := by rw [hl, secsF_len]
  have hls : ∀ x ∈ l, x.size = 256 := by rw [hl]; exact fun x hx => secsF_size hx
  rw [← hl] at ho1 hwr
  obtain ⟨n, hnn⟩ : ∃ n, n = sizeN s.size := ⟨_, rfl⟩
  rw [← hnn] at hll hsn hwr ho1
  obtain ⟨a, c, hv, hl1, _⟩ := (StrsAt.own ho1 hll.symm (by omega)).out
  rw [hll] at hv
  subst hv
  have HO1 := Lib.hid ho1
  have HLL := Lib.hid hll
  have HR1 := Lib.hid (HR.out.grown hb1)
  have HB1 := Lib.hid hb1
  have HW0 := Lib.hid hwr.out
  have hbs : Hid (∀ k, (Value.slice a n c).ownBlock = some k → ¬ own2 b sb k) := Lib.hid (fun k hk h => by have := owns_block ho1 k hk; rcases h with h | h <;> omega)
  clear hmk hb1 hl1 ho1 hl hll hwr hnn hls
  go_wp2_with fail
  go_loopw [11] (fun x wr => ∃ (i : Int) (k : Nat) (m1 : DM), i + 1 = k ∧ k ≤ n ∧ x = .int .i64 i ∧ RefAt wr b sb m1 ∧ Only (own2 b sb) w1 wr ∧ wrF m at_ l n = wrF m1 at_ l k) (fun x _ => (intOf x + 1).toNat)
  case atStart => exact ⟨(n : Int) - 1, n, m, by omega, Nat.le_refl _, rfl, HR1.out, Only.refl _ _, rfl⟩
  case round =>
    obtain ⟨i, k, m1, hik, hk, rfl, hr, ho, hq⟩ := hrel
    have HRR := Lib.hid hr
    have HOO := Lib.hid ho
    have HQ := Lib.hid hq
    clear hr ho hq
    cases k with
    | zero =>
      have g1 : ¬ 0 ≤ i := by omega
      go_wp2_with fail
      go_ret
      have hF : writeF m at_ num s = (m1, 0) := by rw [HW0.out, HQ.out]; rfl
      rw [hF]
      exact ⟨rfl, HRR.out, (Only.of_below HB1.out).trans (HOO.out.mono (fun _ _ h => h))⟩
    | succ k =>
      obtain rfl : i = (k : Int) := by omega
      obtain ⟨x, hx⟩ : ∃ x, l[k]? = some x := ⟨l[k]'(by have := HLL.out; omega), List.getElem?_eq_getElem _⟩
      have hgd : l.getD k ByteArray.empty = x := by rw [List.getD_eq_getElem?_getD, hx]; rfl
      have hown := owns_only HO1.out HOO.out hbs.out
      obtain ⟨a2, c2, he, _, hsrc⟩ := (StrsAt.own hown HLL.out.symm (by omega)).out
      injection he with he1 _ _
      subst he1
      obtain ⟨b5, o5, rfl, _, hc⟩ := hsrc (by have := HLL.out; omega)
      have ci : wr.cell? ⟨b5, o5 + k, none⟩ = some (.string x) := hc k x hx
      have HGD := Lib.hid hgd
      clear hx hgd hown hsrc hc
      have mw : Go.RowKit.wrap64 ((at_ : Int) + (k : Int)) = (at_ : Int) + (k : Int) := by unfold Go.RowKit.wrap64; omega
      go_wp2_with fail
      refine (ref_write b sb m1 ((at_ : Int) + (k : Int)) x _ HRR.out).mono ?_
      rintro e w5 ⟨rfl, hr5, ho5⟩
      have hstep : Hid (wrF m at_ l n = if (m1.write ((at_ : Int) + (k : Int)) x).2 ≠ 0 then m1.write ((at_ : Int) + (k : Int)) x else wrF (m1.write ((at_ : Int) + (k : Int)) x).1 at_ l k) := Lib.hid (by rw [HQ.out, wrF, HGD.out])
      obtain ⟨q, hq⟩ : ∃ q, q = m1.write ((at_ : Int) + (k : Int)) x := ⟨_, rfl⟩
      rw [← hq] at hr5 hstep ⊢
      have HR5 := Lib.hid hr5
      have HO5 := Lib.hid (HOO.out.trans ho5)
      clear hr5 ho5 hq
      obtain ⟨m5, er⟩ := q
      dsimp only at HR5 hstep ⊢
      by_cases he : er = 0
      · subst he
        have hst2 : Hid (wrF m at_ l n = wrF m5 at_ l k) := Lib.hid (by rw [hstep.out, if_neg (by simp)])
        go_wp2_with fail
        go_roundw
        case rel => exact ⟨(k : Int) - 1, k, m5, by omega, by omega, rfl, HR5.out, HO5.out, hst2.out⟩
        case measure => simp [intOf]
      · have g1 : (er != 0) = true := by simpa using he
        have hF : Hid (writeF m at_ num s = (m5, er)) := Lib.hid (by rw [HW0.out, hstep.out, if_pos he])
        go_wp2_with fail
        go_ret
        rw [hF.out]
        exact ⟨rfl, HR5.out, (Only.of_below HB1.out).trans (HO5.out.mono (fun _ _ h => h))⟩
end Go.Proofs.YtcakellhellddaaGreatDoor
namespace Go.Proofs.YtcakellhellddaaGreatDoor
open Go.RowKit
/-! Helpers (as in JoTry, which this text does not import). -/
theorem new_empty (w : World) {B : Nat} (hB : B ≤ w.heap.size) : (w.alloc (.cells #[] 9)).ownsRow B 9 1 (.slice (some ⟨w.heap.size, 0, none⟩) 0 0) 0 (([] : List ByteArray).map Value.string) :=
  ⟨rfl, .inr ⟨w.heap.size, 0, #[], rfl, hB, (Blk.new w #[] 9).out, by simp, by simp, rfl, rfl⟩⟩
theorem row_src (w : World) (s : ByteArray) : 0 < [s].length → ∃ b o, some (⟨w.heap.size, 0, none⟩ : Addr) = some ⟨b, o, none⟩ ∧ b < (w.alloc (.cells #[.string s] 9)).heap.size ∧ ∀ (j : Nat) y, [s][j]? = some y → (w.alloc (.cells #[.string s] 9)).cell? ⟨b, o + j, none⟩ = some (.string y) := fun _ =>
  ⟨_, 0, rfl, (Blk.new w #[.string s] 9).lt, fun j y hj => by
    cases j with
    | zero => obtain rfl := Option.some.inj hj; exact (Blk.new w #[.string s] 9).cell 0
    | succ j => simp at hj⟩
theorem alloc_below (w : World) (o : Obj) : Below w.heap.size w (w.alloc o) := (Below.refl _ w).alloc (Nat.le_refl _) o
theorem alloc_size (w : World) (o : Obj) : w.heap.size ≤ (w.alloc o).heap.size := (alloc_below w o).size
theorem src_below {w w' : World} {l : List ByteArray} {a : Option Addr} (h : 0 < l.length → ∃ b o, a = some ⟨b, o, none⟩ ∧ b < w.heap.size ∧ ∀ (j : Nat) x, l[j]? = some x → w.cell? ⟨b, o + j, none⟩ = some (.string x)) (hb : Below w.heap.size w w') :
    0 < l.length → ∃ b o, a = some ⟨b, o, none⟩ ∧ b < w'.heap.size ∧ ∀ (j : Nat) x, l[j]? = some x → w'.cell? ⟨b, o + j, none⟩ = some (.string x) := fun hl => by
  obtain ⟨b, o, h1, h2, h3⟩ := h hl
  exact ⟨b, o, h1, Nat.lt_of_lt_of_le h2 hb.size, fun j x hj => (hb.cell (p := ⟨b, o + j, none⟩) h2).trans (h3 j x hj)⟩
/-- What putting texts and one more together in new memory leaves. -/
theorem app2_below {w w12 w14 : World} {s : ByteArray} {v12 : Value} (hg : (w.alloc (.cells #[] 9)).grownBy w12 (Value.slice (some ⟨w.heap.size, 0, none⟩) 0 0).ownBlock) (hv : v12.ownBlock = (Value.slice (some ⟨w.heap.size, 0, none⟩) 0 0).ownBlock ∨ v12.ownBlock = some (w.alloc (.cells #[] 9)).heap.size)
    (hg2 : (w12.alloc (.cells #[.string s] 9)).grownBy w14 v12.ownBlock) : Below w.heap.size w w14 := by
  have h1 := alloc_below w (.cells #[] 9)
  have h2 : Below w.heap.size w w12 := h1.trans (below_grown hg h1.size (fun k hk => by simp [Value.ownBlock] at hk; omega))
  have h3 := h2.trans ((alloc_below w12 (.cells #[.string s] 9)).mono h2.size)
  refine h3.trans (below_grown hg2 h3.size (fun k hk => ?_))
  rcases hv with e | e
  · rw [hk] at e; simp [Value.ownBlock] at e; omega
  · rw [hk] at e; have := Option.some.inj e; have := h1.size; omega
/-- A reference journal's row, over the reference disk at rb. -/
def rjRow (rb : Nat) (v : Value) (j : JM) : Array Value := #[.pointer (some ⟨rb, 0, none⟩), .string j.base, v, .int .u32 (j.next : Int), .int .i64 (j.area : Int), .int .i64 (j.used : Int), .bool j.dead]
structure RJ (w : World) (qb rb : Nat) (v : Value) (j : JM) : Prop where
  wf : j.wf
  blk : Blk w qb (rjRow rb v j) 83
  row : w.ownsRow 0 9 1 v j.recs.length (j.recs.map Value.string)
theorem RJ.grown {w w' : World} {qb rb : Nat} {v : Value} {j : JM} (h : RJ w qb rb v j) (hb : Below w.heap.size w w') : RJ w' qb rb v j :=
  ⟨h.wf, h.blk.below hb h.blk.lt, owns_below h.row hb (Nat.le_refl _)⟩
theorem RJ.only {S : Nat → Prop} {w w' : World} {qb rb : Nat} {v : Value} {j : JM} (h : RJ w qb rb v j) (ho : Only S w w') (h1 : ¬ S qb) (h2 : ∀ k, v.ownBlock = some k → ¬ S k) : RJ w' qb rb v j :=
  ⟨h.wf, ho.blk h.blk h1, owns_only h.row ho h2⟩
theorem rjLeft_any (qb rb sb : Nat) (v : Value) (j : JM) (m : DM) (hz : jsize m ≠ 0) (w : World) (h : RJ w qb rb v j) (hd : RefAt w rb sb m) : Calls Tryz.prog 46 #[.pointer (some ⟨qb, 0, none⟩)] w fun e w' => e = .returned (.int .i64 ((jsize m : Int) - (j.used : Int))) ∧ Below w.heap.size w w' := by
  have c0 : w.cell? ⟨qb, 0, none⟩ = some (.pointer (some ⟨rb, 0, none⟩)) := h.blk.cell 0
  have c5 : w.cell? ⟨qb, 5, none⟩ = some (.int .i64 (j.used : Int)) := h.blk.cell 5
  have hu := h.wf.used
  have hjl := jsize_le hd.wf
  have HD := Lib.hid hd
  have HZZ := Lib.hid hz
  obtain ⟨z, hz⟩ : ∃ z, z = jsize m := ⟨_, rfl⟩
  rw [← hz] at hjl ⊢
  have HZ := Lib.hid hz
  have ms : IntKind.i64.wrap ((z : Int) - (j.used : Int)) = (z : Int) - (j.used : Int) := by rw [IntKind.wrap_i64]; omega
  clear h hd hz
  go_enter Tryz.func46, Tryz.ntmps46
  go_wp2_with fail
  refine wp_region_held_drew (S := fun w' => w'.cell? ⟨qb, 0, none⟩ = some (.pointer (some ⟨rb, 0, none⟩)) ∧ w'.cell? ⟨qb, 5, none⟩ = some (.int .i64 (j.used : Int))) (by kernel_rfl) ⟨c0, c5⟩ (fun hHeld => ?_)
  refine take_op 0 (some 3) (v := ?_) rfl rfl (by kernel_rfl) (by kernel_rfl) (by kernel_rfl) (fun _ _ _ h => h) (Or.inl ⟨by rfl, ?_⟩) (by assumption) ?_
  rotate_left
  · intro w_ hSw_; (try dsimp only at hSw_); go_simp; (try with_reducible rfl)
  try simp only [Act.put, List.setIfInBounds_toArray, List.set_cons_zero, List.set_cons_succ]
  refine take_op 1 (some 4) (v := ?_) rfl rfl (by kernel_rfl) (by kernel_rfl) (by kernel_rfl) (fun _ _ _ h => h) (Or.inl ⟨by rfl, ?_⟩) (by assumption) ?_
  rotate_left
  · intro w_ hSw_; (try dsimp only at hSw_); go_simp; (try with_reducible rfl)
  try simp only [Act.put, List.setIfInBounds_toArray, List.set_cons_zero, List.set_cons_succ]
  refine take_op 2 (some 5) (v := ?_) rfl rfl (by kernel_rfl) (by kernel_rfl) (by kernel_rfl) (fun _ _ _ h => h) (Or.inl ⟨by rfl, ?_⟩) (by assumption) ?_
  rotate_left
  · intro w_ hSw_; (try dsimp only at hSw_); go_simp; (try with_reducible rfl)
  try simp only [Act.put, List.setIfInBounds_toArray, List.set_cons_zero, List.set_cons_succ]
  refine take_op 3 (some 6) (v := ?_) rfl rfl (by kernel_rfl) (by kernel_rfl) (by kernel_rfl) (fun _ _ _ h => h) (Or.inl ⟨by rfl, ?_⟩) (by assumption) ?_
  rotate_left
  · intro w_ hSw_; (try dsimp only at hSw_); go_simp; (try with_reducible rfl)
  try simp only [Act.put, List.setIfInBounds_toArray, List.set_cons_zero, List.set_cons_succ]
  refine take_op 5 (some 8) (v := ?_) rfl rfl (by kernel_rfl) (by kernel_rfl) (by kernel_rfl) (fun _ _ _ h => h) (Or.inl ⟨by rfl, ?_⟩) (by assumption) ?_
  rotate_left
  · intro w_ hSw_; (try dsimp only at hSw_); go_simp; (try with_reducible rfl)
  try simp only [Act.put, List.setIfInBounds_toArray, List.set_cons_zero, List.set_cons_succ]
  refine take_op 6 (some 9) (v := ?_) rfl rfl (by kernel_rfl) (by kernel_rfl) (by kernel_rfl) (fun _ _ _ h => h) (Or.inl ⟨by rfl, ?_⟩) (by assumption) ?_
  rotate_left
  · intro w_ hSw_; (try dsimp only at hSw_); go_simp; (try with_reducible rfl)
  try simp only [Act.put, List.setIfInBounds_toArray, List.set_cons_zero, List.set_cons_succ]
  refine take_op 7 (some 10) (v := ?_) rfl rfl (by kernel_rfl) (by kernel_rfl) (by kernel_rfl) (fun _ _ _ h => h) (Or.inl ⟨by rfl, ?_⟩) (by assumption) ?_
  rotate_left
  · intro w_ hSw_; (try dsimp only at hSw_); go_simp; (try with_reducible rfl)
  try simp only [Act.put, List.setIfInBounds_toArray, List.set_cons_zero, List.set_cons_succ]
  refine take_op 8 (some 11) (v := ?_) rfl rfl (by kernel_rfl) (by kernel_rfl) (by kernel_rfl) (fun _ _ _ h => h) (Or.inl ⟨by rfl, ?_⟩) (by assumption) ?_
  rotate_left
  · intro w_ hSw_; (try dsimp only at hSw_); go_simp; (try with_reducible rfl)
  try simp only [Act.put, List.setIfInBounds_toArray, List.set_cons_zero, List.set_cons_succ]
  refine go_op 4 rfl (by kernel_rfl) (fun K_ hK_ => ?_)
  go_simp
  refine (rjRoom_any rb sb m HZZ.out _ (HD.out.only ((Only.refl (fun _ => False) _).drew) (fun h => h) (fun h => h))).mono ?_
  rintro e w1 ⟨rfl, hw1⟩
  have hw1 := hw1.symm
  subst hw1
  rw [← HZ.out]
  simp only [Act.put, List.setIfInBounds_toArray, List.set_cons_zero, List.set_cons_succ]
  refine hK_.out _ _ hHeld (fun hHeld_ => ?_)
  refine take_op 9 (some 12) (v := ?_) rfl rfl (by kernel_rfl) (by kernel_rfl) (by kernel_rfl) (fun _ _ _ h => h) (Or.inl ⟨by rfl, ?_⟩) (by assumption) ?_
  rotate_left
  · intro w_ hSw_; (try dsimp only at hSw_); go_simp; (try with_reducible rfl)
  try simp only [Act.put, List.setIfInBounds_toArray, List.set_cons_zero, List.set_cons_succ]
  refine take_op 10 (some 2) (v := ?_) rfl rfl (by kernel_rfl) (by kernel_rfl) (by kernel_rfl) (fun _ _ _ h => h) (Or.inl ⟨by rfl, ?_⟩) (by assumption) ?_
  rotate_left
  · intro w_ hSw_; (try dsimp only at hSw_); go_simp; (try with_reducible rfl)
  try simp only [Act.put, List.setIfInBounds_toArray, List.set_cons_zero, List.set_cons_succ]
  refine wpAnyH_done (by kernel_rfl) ?_ _
  go_wp2_with fail
  go_ret
  exact ⟨rfl, (Below.refl _ _).drew⟩
/-- A reference journal's blocks are not its disk's. -/
def RApart (rb sb qb : Nat) (v : Value) : Prop := ¬ own2 rb sb qb ∧ (∀ k, v.ownBlock = some k → ¬ own2 rb sb k ∧ k ≠ qb)
/-- What the reference's Append and Save leave. -/
def ROut (rb sb qb : Nat) (v : Value) (r : DM × JM × Int) (w : World) (e : Ending) (w' : World) : Prop :=
  e = .returned (.int .i64 r.2.2) ∧ RefAt w' rb sb r.1 ∧ Only (fun k => own2 rb sb k ∨ k = qb) w w' ∧ ∃ v', RJ w' qb rb v' r.2.1 ∧ (∀ k, v'.ownBlock = some k → v.ownBlock = some k ∨ w.heap.size ≤ k)
theorem wf_more {j : JM} (h : j.wf) (s : ByteArray) (n : Nat) (h1 : j.next + 1 < 4294967296) (h2 : j.used + n ≤ 100000) (h3 : j.recs.length ≤ 999999) : JM.wf { j with recs := j.recs ++ [s], next := j.next + 1, used := j.used + n } :=
  ⟨h.area, h1, h2, by show (j.recs ++ [s]).length ≤ 1000000; rw [List.length_append, List.length_singleton]; omega⟩
set_option maxRecDepth 100000 in
set_option maxHeartbeats 4000000 in
theorem rjAppend_any (rb sb qb : Nat) (m : DM) (hz : jsize m ≠ 0) (v : Value) (j : JM) (s : ByteArray) (hsm : s.size ≤ maxLen) (w : World) (hd : RefAt w rb sb m) (hj : RJ w qb rb v j) (hap : RApart rb sb qb v) (hn0 : 0 < j.next) (hrl : j.recs.length ≤ 999999) (hus : j.used ≤ jsize m) :
    Calls Tryz.prog 12 #[.pointer (some ⟨qb, 0, none⟩), .string s] w (ROut rb sb qb v (appendF m j s) w) := by
  obtain ⟨av, cv, hve, _, _⟩ := (StrsAt.own hj.row rfl (by have := hj.wf.recs; omega)).out
  subst hve
  have HD := Lib.hid hd
  have HJ := Lib.hid hj
  have HAP := Lib.hid hap
  have HZ := Lib.hid hz
  have hjl := jsize_le hd.wf
  have hnx := hj.wf.next
  have hxa := hj.wf.area
  unfold maxLen at hsm
  have c0 : w.cell? ⟨qb, 0, none⟩ = some (.pointer (some ⟨rb, 0, none⟩)) := hj.blk.cell 0
  have c3 : w.cell? ⟨qb, 3, none⟩ = some (.int .u32 (j.next : Int)) := hj.blk.cell 3
  have c4 : w.cell? ⟨qb, 4, none⟩ = some (.int .i64 (j.area : Int)) := hj.blk.cell 4
  have c5 : w.cell? ⟨qb, 5, none⟩ = some (.int .i64 (j.used : Int)) := hj.blk.cell 5
  have c6 : w.cell? ⟨qb, 6, none⟩ = some (.bool j.dead) := hj.blk.cell 6
  clear hd hj hap hz
  cases hde : j.dead
  · rw [hde] at c6
    by_cases hlong : 60000 < s.size
    · have g1 : (60000 : Int) < (s.size : Int) := by omega
      have hF : Hid (appendF m j s = (m, j, 2)) := Lib.hid (by
        have hm : j.may s ((jsize m : Int) - (j.used : Int)) = (0, 2) := by unfold JM.may fitsF; rw [hde]; simp only [Bool.false_eq_true, if_false, if_pos hlong]; rfl
        unfold appendF; rw [hm, if_pos (show (2 : Int) ≠ 0 by decide)])
      clear hde
      go_enter Tryz.func12, Tryz.ntmps12
      go_wp2_with fail
      go_ret
      rw [hF.out]
      exact ⟨rfl, HD.out, Only.refl _ _, _, HJ.out, fun k hk => .inl hk⟩
    · have g1 : ¬ (60000 : Int) < (s.size : Int) := by omega
      obtain ⟨z, hze⟩ : ∃ z, z = jsize m := ⟨_, rfl⟩
      have HZE := Lib.hid hze
      rw [← hze] at hjl hus
      have hmay : Hid (j.may s ((jsize m : Int) - (j.used : Int)) = if z < j.used + sizeN s.size then (0, 73) else if 2148483648 < j.next then ((sizeN s.size : Int), 73) else ((sizeN s.size : Int), 0)) := Lib.hid (by
        unfold JM.may fitsF
        rw [hde]
        simp only [Bool.false_eq_true, if_false, if_neg hlong]
        by_cases h1 : z < j.used + sizeN s.size
        · rw [if_pos (show (jsize m : Int) - (j.used : Int) < (sizeN s.size : Int) by omega), if_pos h1]
          dsimp only
          rw [if_neg (fun h => absurd h.1 (by decide))]
        · rw [if_neg (show ¬ (jsize m : Int) - (j.used : Int) < (sizeN s.size : Int) by omega), if_neg h1]
          dsimp only
          by_cases h2 : 2148483648 < j.next
          · rw [if_pos ⟨rfl, h2⟩, if_pos h2]
          · rw [if_neg (fun h => h2 h.2), if_neg h2])
      have hsn := sizeN_le (k := s.size) (by omega)
      have HDE := Lib.hid hde
      clear hde hze
      go_enter Tryz.func12, Tryz.ntmps12
      go_wp2_with fail
      refine (rfSize_any (s.size : Int) _).mono ?_
      rintro e w1 ⟨rfl, hw1⟩
      have hw1 := hw1.symm
      subst hw1
      rw [sizeF_nat (by omega)]
      go_wp2_with fail
      refine (rjLeft_any qb rb sb _ j m HZ.out _ HJ.out HD.out).mono ?_
      rintro e w1 ⟨rfl, hb1⟩
      rw [← HZE.out]
      have HD1 := Lib.hid (HD.out.grown hb1)
      have HJ1 := Lib.hid (HJ.out.grown hb1)
      have HB1 := Lib.hid hb1
      have d3 : w1.cell? ⟨qb, 3, none⟩ = some (.int .u32 (j.next : Int)) := HJ1.out.blk.cell 3
      clear hb1 c0 c3 c4 c5 c6
      by_cases hfull : z < j.used + sizeN s.size
      · have g2 : (z : Int) - (j.used : Int) < (sizeN s.size : Int) := by omega
        have hF : Hid (appendF m j s = (m, j, 73)) := Lib.hid (by unfold appendF; rw [hmay.out, if_pos hfull, if_pos (show (73 : Int) ≠ 0 by decide)])
        go_wp2_with fail
        go_ret
        rw [hF.out]
        exact ⟨rfl, HD1.out, Only.of_below HB1.out, _, HJ1.out, fun k hk => .inl hk⟩
      · have g2 : ¬ (z : Int) - (j.used : Int) < (sizeN s.size : Int) := by omega
        by_cases hmost : 2148483648 < j.next
        · have g3 : (2148483648 : Int) < (j.next : Int) := by omega
          have hF : Hid (appendF m j s = (m, j, 73)) := Lib.hid (by unfold appendF; rw [hmay.out, if_neg hfull, if_pos hmost, if_pos (show (73 : Int) ≠ 0 by decide)])
          go_wp2_with fail
          go_ret
          rw [hF.out]
          exact ⟨rfl, HD1.out, Only.of_below HB1.out, _, HJ1.out, fun k hk => .inl hk⟩
        · have g3 : ¬ (2148483648 : Int) < (j.next : Int) := by omega
          have E4 : Hid ((j.next : Int) + 1 = ((j.next + 1 : Nat) : Int)) := Lib.hid (by omega)
          have E5 : Hid ((j.used : Int) + (sizeN s.size : Int) = ((j.used + sizeN s.size : Nat) : Int)) := Lib.hid (by omega)
          have HU9 : Hid (j.used + sizeN s.size ≤ 100000) := Lib.hid (by omega)
          have HN9 : Hid (j.next + 1 < 4294967296) := Lib.hid (by omega)
          obtain ⟨at_, hat⟩ : ∃ a, a = firstF m j.area + j.used := ⟨_, rfl⟩
          have hal : at_ ≤ 100000 := by
            have hzz := HZE.out
            rw [hat]; unfold firstF
            rcases (by omega : j.area = 0 ∨ j.area = 1) with h | h <;> rw [h] <;> omega
          obtain ⟨q, hq⟩ : ∃ q, q = writeF m (at_ : Int) j.next s := ⟨_, rfl⟩
          have HQ := Lib.hid hq
          have HAT := Lib.hid hat
          have hA0 : Hid (appendF m j s = if q.2 ≠ 0 then (q.1, { j with dead := true }, q.2) else (q.1, { j with recs := j.recs ++ [s], next := j.next + 1, used := j.used + sizeN s.size }, 0)) := Lib.hid (by
            unfold appendF; rw [hmay.out, if_neg hfull, if_neg hmost, if_neg (by simp), ← hat, ← hq])
          have ms : IntKind.i64.wrap ((firstF m j.area : Int) + (j.used : Int)) = (at_ : Int) := by rw [IntKind.wrap_i64, hat]; omega
          have c0 : w1.cell? ⟨qb, 0, none⟩ = some (.pointer (some ⟨rb, 0, none⟩)) := HJ1.out.blk.cell 0
          have c4 : w1.cell? ⟨qb, 4, none⟩ = some (.int .i64 (j.area : Int)) := HJ1.out.blk.cell 4
          have c5 : w1.cell? ⟨qb, 5, none⟩ = some (.int .i64 (j.used : Int)) := HJ1.out.blk.cell 5
          clear hq hat
          go_wp2_with fail
          refine wp_region_held_drew (S := fun w' => w'.cell? ⟨qb, 0, none⟩ = some (.pointer (some ⟨rb, 0, none⟩)) ∧ w'.cell? ⟨qb, 4, none⟩ = some (.int .i64 (j.area : Int)) ∧ w'.cell? ⟨qb, 5, none⟩ = some (.int .i64 (j.used : Int)) ∧ w'.cell? ⟨qb, 3, none⟩ = some (.int .u32 (j.next : Int))) (by kernel_rfl) ⟨c0, c4, c5, d3⟩ (fun hHeld => ?_)
          refine take_op 0 (some 28) (v := ?_) rfl rfl (by kernel_rfl) (by kernel_rfl) (by kernel_rfl) (fun _ _ _ h => h) (Or.inl ⟨by rfl, ?_⟩) (by assumption) ?_
          rotate_left
          · intro w_ hSw_; (try dsimp only at hSw_); go_simp; (try with_reducible rfl)
          try simp only [Act.put, List.setIfInBounds_toArray, List.set_cons_zero, List.set_cons_succ]
          refine take_op 1 (some 29) (v := ?_) rfl rfl (by kernel_rfl) (by kernel_rfl) (by kernel_rfl) (fun _ _ _ h => h) (Or.inl ⟨by rfl, ?_⟩) (by assumption) ?_
          rotate_left
          · intro w_ hSw_; (try dsimp only at hSw_); go_simp; (try with_reducible rfl)
          try simp only [Act.put, List.setIfInBounds_toArray, List.set_cons_zero, List.set_cons_succ]
          refine take_op 2 (some 30) (v := ?_) rfl rfl (by kernel_rfl) (by kernel_rfl) (by kernel_rfl) (fun _ _ _ h => h) (Or.inl ⟨by rfl, ?_⟩) (by assumption) ?_
          rotate_left
          · intro w_ hSw_; (try dsimp only at hSw_); go_simp; (try with_reducible rfl)
          try simp only [Act.put, List.setIfInBounds_toArray, List.set_cons_zero, List.set_cons_succ]
          refine take_op 3 (some 31) (v := ?_) rfl rfl (by kernel_rfl) (by kernel_rfl) (by kernel_rfl) (fun _ _ _ h => h) (Or.inl ⟨by rfl, ?_⟩) (by assumption) ?_
          rotate_left
          · intro w_ hSw_; (try dsimp only at hSw_); go_simp; (try with_reducible rfl)
          try simp only [Act.put, List.setIfInBounds_toArray, List.set_cons_zero, List.set_cons_succ]
          refine take_op 4 (some 32) (v := ?_) rfl rfl (by kernel_rfl) (by kernel_rfl) (by kernel_rfl) (fun _ _ _ h => h) (Or.inl ⟨by rfl, ?_⟩) (by assumption) ?_
          rotate_left
          · intro w_ hSw_; (try dsimp only at hSw_); go_simp; (try with_reducible rfl)
          try simp only [Act.put, List.setIfInBounds_toArray, List.set_cons_zero, List.set_cons_succ]
          refine take_op 5 (some 33) (v := ?_) rfl rfl (by kernel_rfl) (by kernel_rfl) (by kernel_rfl) (fun _ _ _ h => h) (Or.inl ⟨by rfl, ?_⟩) (by assumption) ?_
          rotate_left
          · intro w_ hSw_; (try dsimp only at hSw_); go_simp; (try with_reducible rfl)
          try simp only [Act.put, List.setIfInBounds_toArray, List.set_cons_zero, List.set_cons_succ]
          refine take_op 6 (some 34) (v := ?_) rfl rfl (by kernel_rfl) (by kernel_rfl) (by kernel_rfl) (fun _ _ _ h => h) (Or.inl ⟨by rfl, ?_⟩) (by assumption) ?_
          rotate_left
          · intro w_ hSw_; (try dsimp only at hSw_); go_simp; (try with_reducible rfl)
          try simp only [Act.put, List.setIfInBounds_toArray, List.set_cons_zero, List.set_cons_succ]
          refine take_op 7 (some 35) (v := ?_) rfl rfl (by kernel_rfl) (by kernel_rfl) (by kernel_rfl) (fun _ _ _ h => h) (Or.inl ⟨by rfl, ?_⟩) (by assumption) ?_
          rotate_left
          · intro w_ hSw_; (try dsimp only at hSw_); go_simp; (try with_reducible rfl)
          try simp only [Act.put, List.setIfInBounds_toArray, List.set_cons_zero, List.set_cons_succ]
          refine take_op 8 (some 36) (v := ?_) rfl rfl (by kernel_rfl) (by kernel_rfl) (by kernel_rfl) (fun _ _ _ h => h) (Or.inl ⟨by rfl, ?_⟩) (by assumption) ?_
          rotate_left
          · intro w_ hSw_; (try dsimp only at hSw_); go_simp; (try with_reducible rfl)
          try simp only [Act.put, List.setIfInBounds_toArray, List.set_cons_zero, List.set_cons_succ]
          refine take_op 9 (some 37) (v := ?_) rfl rfl (by kernel_rfl) (by kernel_rfl) (by kernel_rfl) (fun _ _ _ h => h) (Or.inl ⟨by rfl, ?_⟩) (by assumption) ?_
          rotate_left
          · intro w_ hSw_; (try dsimp only at hSw_); go_simp; (try with_reducible rfl)
          try simp only [Act.put, List.setIfInBounds_toArray, List.set_cons_zero, List.set_cons_succ]
          refine take_op 10 (some 38) (v := ?_) rfl rfl (by kernel_rfl) (by kernel_rfl) (by kernel_rfl) (fun _ _ _ h => h) (Or.inl ⟨by rfl, ?_⟩) (by assumption) ?_
          rotate_left
          · intro w_ hSw_; (try dsimp only at hSw_); go_simp; (try with_reducible rfl)
          try simp only [Act.put, List.setIfInBounds_toArray, List.set_cons_zero, List.set_cons_succ]
          refine take_op 11 (some 39) (v := ?_) rfl rfl (by kernel_rfl) (by kernel_rfl) (by kernel_rfl) (fun _ _ _ h => h) (Or.inl ⟨by rfl, ?_⟩) (by assumption) ?_
          rotate_left
          · intro w_ hSw_; (try dsimp only at hSw_); go_simp; (try with_reducible rfl)
          try simp only [Act.put, List.setIfInBounds_toArray, List.set_cons_zero, List.set_cons_succ]
          refine take_op 13 (some 41) (v := ?_) rfl rfl (by kernel_rfl) (by kernel_rfl) (by kernel_rfl) (fun _ _ _ h => h) (Or.inl ⟨by rfl, ?_⟩) (by assumption) ?_
          rotate_left
          · intro w_ hSw_; (try dsimp only at hSw_); go_simp; (try with_reducible rfl)
          try simp only [Act.put, List.setIfInBounds_toArray, List.set_cons_zero, List.set_cons_succ]
          refine take_op 14 (some 42) (v := ?_) rfl rfl (by kernel_rfl) (by kernel_rfl) (by kernel_rfl) (fun _ _ _ h => h) (Or.inl ⟨by rfl, ?_⟩) (by assumption) ?_
          rotate_left
          · intro w_ hSw_; (try dsimp only at hSw_); go_simp; (try with_reducible rfl)
          try simp only [Act.put, List.setIfInBounds_toArray, List.set_cons_zero, List.set_cons_succ]
          refine take_op 15 (some 43) (v := ?_) rfl rfl (by kernel_rfl) (by kernel_rfl) (by kernel_rfl) (fun _ _ _ h => h) (Or.inl ⟨by rfl, ?_⟩) (by assumption) ?_
          rotate_left
          · intro w_ hSw_; (try dsimp only at hSw_); go_simp; (try with_reducible rfl)
          try simp only [Act.put, List.setIfInBounds_toArray, List.set_cons_zero, List.set_cons_succ]
          refine take_op 16 (some 44) (v := ?_) rfl rfl (by kernel_rfl) (by kernel_rfl) (by kernel_rfl) (fun _ _ _ h => h) (Or.inl ⟨by rfl, ?_⟩) (by assumption) ?_
          rotate_left
          · intro w_ hSw_; (try dsimp only at hSw_); go_simp; (try with_reducible rfl)
          try simp only [Act.put, List.setIfInBounds_toArray, List.set_cons_zero, List.set_cons_succ]
          refine take_op 18 (some 46) (v := ?_) rfl rfl (by kernel_rfl) (by kernel_rfl) (by kernel_rfl) (fun _ _ _ h => h) (Or.inl ⟨by rfl, ?_⟩) (by assumption) ?_
          rotate_left
          · intro w_ hSw_; (try dsimp only at hSw_); go_simp; (try with_reducible rfl)
          try simp only [Act.put, List.setIfInBounds_toArray, List.set_cons_zero, List.set_cons_succ]
          refine take_op 19 (some 47) (v := ?_) rfl rfl (by kernel_rfl) (by kernel_rfl) (by kernel_rfl) (fun _ _ _ h => h) (Or.inl ⟨by rfl, ?_⟩) (by assumption) ?_
          rotate_left
          · intro w_ hSw_; (try dsimp only at hSw_); go_simp; (try with_reducible rfl)
          try simp only [Act.put, List.setIfInBounds_toArray, List.set_cons_zero, List.set_cons_succ]
          refine take_op 20 (some 48) (v := ?_) rfl rfl (by kernel_rfl) (by kernel_rfl) (by kernel_rfl) (fun _ _ _ h => h) (Or.inl ⟨by rfl, ?_⟩) (by assumption) ?_
          rotate_left
          · intro w_ hSw_; (try dsimp only at hSw_); go_simp; (try with_reducible rfl)
          try simp only [Act.put, List.setIfInBounds_toArray, List.set_cons_zero, List.set_cons_succ]
          refine take_op 21 (some 49) (v := ?_) rfl rfl (by kernel_rfl) (by kernel_rfl) (by kernel_rfl) (fun _ _ _ h => h) (Or.inl ⟨by rfl, ?_⟩) (by assumption) ?_
          rotate_left
          · intro w_ hSw_; (try dsimp only at hSw_); go_simp; (try with_reducible rfl)
          try simp only [Act.put, List.setIfInBounds_toArray, List.set_cons_zero, List.set_cons_succ]
          refine take_op 22 (some 50) (v := ?_) rfl rfl (by kernel_rfl) (by kernel_rfl) (by kernel_rfl) (fun _ _ _ h => h) (Or.inl ⟨by rfl, ?_⟩) (by assumption) ?_
          rotate_left
          · intro w_ hSw_; (try dsimp only at hSw_); go_simp; (try with_reducible rfl)
          try simp only [Act.put, List.setIfInBounds_toArray, List.set_cons_zero, List.set_cons_succ]
          refine go_op 12 rfl (by kernel_rfl) (fun K_ hK_ => ?_)
          go_simp
          refine (rjStart_any rb sb m HZ.out j.area hxa _ (HD1.out.only ((Only.refl (fun _ => False) _).drew) (fun h => h) (fun h => h))).mono ?_
          rintro e w2 ⟨rfl, hw2⟩
          have hw2 := hw2.symm
          subst hw2
          simp only [Act.put, List.setIfInBounds_toArray, List.set_cons_zero, List.set_cons_succ]
          refine hK_.out _ _ hHeld (fun hHeld_ => ?_)
          refine take_op 17 (some 45) (v := ?_) rfl rfl (by kernel_rfl) (by kernel_rfl) (by kernel_rfl) (fun _ _ _ h => h) (Or.inl ⟨by rfl, ?_⟩) (by assumption) ?_
          rotate_left
          · intro w_ hSw_; (try dsimp only at hSw_); go_simp; (try with_reducible rfl)
          try simp only [Act.put, List.setIfInBounds_toArray, List.set_cons_zero, List.set_cons_succ]
          refine go_op 23 rfl (by kernel_rfl) (fun K_ hK_ => ?_)
          go_simp
          refine (rjWrite_any rb sb m at_ hal j.next hn0 hnx s (by omega) _ (HD1.out.only ((Only.refl (fun _ => False) _).drew) (fun h => h) (fun h => h))).mono ?_
          rintro e w3 ⟨rfl, hd3, ho3⟩
          have ho3 := (Only.refl (own2 rb sb) w1).drew.trans ho3
          have hj3 := HJ1.out.only ho3 HAP.out.1 (fun k hk => (HAP.out.2 k hk).1)
          rw [← HQ.out] at hd3 ⊢
          have HD3 := Lib.hid hd3
          have HO3 := Lib.hid ho3
          have HJ3 := Lib.hid hj3
          clear hd3 ho3 hj3
          try simp only [Act.put, List.setIfInBounds_toArray, List.set_cons_zero, List.set_cons_succ]
          refine hK_.out _ _ ⟨HJ3.out.blk.cell 0, HJ3.out.blk.cell 4, HJ3.out.blk.cell 5, HJ3.out.blk.cell 3⟩ (fun hHeld_ => ?_)
          refine take_op 24 (some 6) (v := ?_) rfl rfl (by kernel_rfl) (by kernel_rfl) (by kernel_rfl) (fun _ _ _ h => h) (Or.inl ⟨by rfl, ?_⟩) (by assumption) ?_
          rotate_left
          · intro w_ hSw_; (try dsimp only at hSw_); go_simp; (try with_reducible rfl)
          try simp only [Act.put, List.setIfInBounds_toArray, List.set_cons_zero, List.set_cons_succ]
          refine wpAnyH_done (by kernel_rfl) ?_ _
          have HO4 := Lib.hid ((Only.of_below (S := fun k => own2 rb sb k ∨ k = qb) HB1.out).trans (HO3.out.mono (T := fun k => own2 rb sb k ∨ k = qb) (fun k _ h => .inl h)))
          obtain ⟨m1, er1⟩ := q
          dsimp only at HD3 hA0 ⊢
          by_cases he1 : er1 = 0
          · subst he1
            have hF : Hid (appendF m j s = (m1, { j with recs := j.recs ++ [s], next := j.next + 1, used := j.used + sizeN s.size }, 0)) := Lib.hid (by rw [hA0.out, if_neg (by simp)])
            have x2 : w3.cell? ⟨qb, 2, none⟩ = some (.slice av j.recs.length cv) := HJ3.out.blk.cell 2
            obtain ⟨a10, cc10, hae, _, hsrc10⟩ := (StrsAt.own HJ3.out.row rfl (by omega)).out
            injection hae with hae1 _ hae2
            subst hae1 hae2
            have HSRC10 := Lib.hid hsrc10
            have x2' : (w3.alloc (.cells #[] 9)).cell? ⟨qb, 2, none⟩ = some (.slice av j.recs.length cv) := (HJ3.out.blk.alloc (.cells #[] 9)).cell 2
            clear hsrc10
            go_wp2_with (first | ((with_reducible refine at_appStrs w3.heap.size (.slice (some ⟨w3.heap.size, 0, none⟩) 0 0) 0 [] j.recs av j.recs.length cv rfl (new_empty w3 (Nat.le_refl _)) (src_below HSRC10.out (alloc_below _ _)) ?_ (alloc_size _ _) ?_ ?_ ?_); omega; exact rfl; exact rfl; intro v12 w12 ho12 hg12 hv12; have hz12 : w3.heap.size ≤ w12.heap.size := Nat.le_trans (alloc_size _ _) hg12.size) | ((with_reducible refine at_appStrs w3.heap.size v12 (0 + j.recs.length) ([] ++ j.recs) [s] (some ⟨w12.heap.size, 0, none⟩) 1 1 rfl (owns_below ho12 (alloc_below _ _) (Nat.le_refl _)) (row_src w12 s) ?_ (Nat.le_trans hz12 (alloc_size _ _)) ?_ ?_ ?_); omega; exact rfl; exact rfl; intro v14 w14 ho14 hg14 hv14; obtain ⟨g9, cap9, hv10⟩ := own_slice ho14; subst hv10; have hb14 : Below w3.heap.size w3 w14 := app2_below hg12 hv12 hg14; have hblk9 : Blk w14 qb (rjRow rb (.slice av j.recs.length cv) j) 83 := HJ3.out.blk.below hb14 HJ3.out.blk.lt; have f2 := hblk9.free 2; have f3 := hblk9.free 3; have f5 := hblk9.free 5; have d2 : w14.cell? ⟨qb, 2, none⟩ = some (.slice av j.recs.length cv) := hblk9.cell 2; have e3 : w14.cell? ⟨qb, 3, none⟩ = some (.int .u32 (j.next : Int)) := hblk9.cell 3; have e5 : w14.cell? ⟨qb, 5, none⟩ = some (.int .i64 (j.used : Int)) := hblk9.cell 5) | fail)
            go_ret
            rw [hF.out, E4.out, E5.out]
            obtain ⟨wF, hwF⟩ : ∃ wF, wF = ((w14.setCell ⟨qb, 2, none⟩ (.slice (some ⟨g9, 0, none⟩) (j.recs.length + 1) cap9)).setCell ⟨qb, 5, none⟩ (.int .i64 ((j.used + sizeN s.size : Nat) : Int))).setCell ⟨qb, 3, none⟩ (.int .u32 ((j.next + 1 : Nat) : Int)) := ⟨_, rfl⟩
            have hfin : Only (fun k => k = qb) w14 wF := by
              rw [hwF]
              exact (((Only.refl (fun k => k = qb) w14).setCell (fun _ => rfl) _).setCell (fun _ => rfl) _).setCell (fun _ => rfl) _
            have hblkF : Blk wF qb (rjRow rb (.slice (some ⟨g9, 0, none⟩) (j.recs.length + 1) cap9) { j with recs := j.recs ++ [s], next := j.next + 1, used := j.used + sizeN s.size }) 83 := by
              rw [hwF]
              exact ((hblk9.setCell 2 (.slice (some ⟨g9, 0, none⟩) (j.recs.length + 1) cap9)).setCell 5 (.int .i64 ((j.used + sizeN s.size : Nat) : Int))).setCell 3 (.int .u32 ((j.next + 1 : Nat) : Int))
            rw [← hwF]
            rw [Nat.zero_add, List.nil_append] at ho14
            have hob := owns_block ho14
            have hqb3 := HJ3.out.blk.lt
            have hwf := HJ3.out.wf
            have hz3 : w.heap.size ≤ w3.heap.size := HO4.out.size
            refine ⟨rfl, (HD3.out.only (Only.of_below (S := fun _ => False) hb14) (fun h => h) (fun h => h)).only hfin (fun h => HAP.out.1 (.inl h.symm)) (fun h => HAP.out.1 (.inr h.symm)), (HO4.out.trans (Only.of_below hb14)).trans (hfin.mono (fun k _ h => .inr h)), _, ⟨wf_more hwf s (sizeN s.size) HN9.out HU9.out hrl, hblkF, ?_⟩, fun k hk => .inr (Nat.le_trans hz3 (hob k hk))⟩
            show wF.ownsRow 0 9 1 _ (j.recs ++ [s]).length ((j.recs ++ [s]).map Value.string)
            rw [List.length_append, List.length_singleton]
            exact owns_rebase (owns_only ho14 hfin (fun k hk e => by have := hob k hk; omega)) (Nat.zero_le _)
          · have g4 : (er1 != 0) = true := by simpa using he1
            have hF : Hid (appendF m j s = (m1, { j with dead := true }, er1)) := Lib.hid (by rw [hA0.out, if_pos he1])
            have x6 : w3.cell? ⟨qb, 6, none⟩ = some (.bool j.dead) := HJ3.out.blk.cell 6
            have f6 := HJ3.out.blk.free 6
            go_wp2_with fail
            go_ret
            rw [hF.out]
            have hfin : Only (fun k => k = qb) w3 (w3.setCell ⟨qb, 6, none⟩ (.bool true)) := (Only.refl (fun k => k = qb) w3).setCell (p := ⟨qb, 6, none⟩) (fun _ => rfl) _
            have hwf := HJ3.out.wf
            exact ⟨rfl, HD3.out.only hfin (fun h => HAP.out.1 (.inl h.symm)) (fun h => HAP.out.1 (.inr h.symm)), HO4.out.trans (hfin.mono (fun k _ h => .inr h)), _, ⟨⟨hwf.1, hwf.2, hwf.3, hwf.4⟩, HJ3.out.blk.setCell 6 (.bool true), owns_only HJ3.out.row hfin (fun k hk => (HAP.out.2 k hk).2)⟩, fun k hk => .inl hk⟩
  · rw [hde] at c6
    have hF : Hid (appendF m j s = (m, j, 74)) := Lib.hid (by
      have hm : j.may s ((jsize m : Int) - (j.used : Int)) = (0, 74) := by unfold JM.may; rw [hde, if_pos rfl]
      unfold appendF; rw [hm, if_pos (show (74 : Int) ≠ 0 by decide)])
    clear hde
    go_enter Tryz.func12, Tryz.ntmps12
    go_wp2_with fail
    go_ret
    rw [hF.out]
    exact ⟨rfl, HD.out, Only.refl _ _, _, HJ.out, fun k hk => .inl hk⟩
end Go.Proofs.YtcakellhellddaaGreatDoor
namespace Go.Proofs.YtcakellhellddaaGreatDoor
open Go.RowKit
set_option maxRecDepth 100000 in
set_option maxHeartbeats 4000000 in
theorem rjSave_any (rb sb qb : Nat) (m : DM) (hz : jsize m ≠ 0) (v : Value) (j : JM) (s : ByteArray) (hsm : s.size ≤ maxLen) (w : World) (hd : RefAt w rb sb m) (hj : RJ w qb rb v j) (hap : RApart rb sb qb v) (hn0 : 0 < j.next) :
    Calls Tryz.prog 14 #[.pointer (some ⟨qb, 0, none⟩), .string s] w (ROut rb sb qb v (saveF m j s) w) := by
  have HD := Lib.hid hd
  have HJ := Lib.hid hj
  have HAP := Lib.hid hap
  have HZ := Lib.hid hz
  have hjl := jsize_le hd.wf
  have hnx := hj.wf.next
  have hxa := hj.wf.area
  unfold maxLen at hsm
  have c0 : w.cell? ⟨qb, 0, none⟩ = some (.pointer (some ⟨rb, 0, none⟩)) := hj.blk.cell 0
  have c3 : w.cell? ⟨qb, 3, none⟩ = some (.int .u32 (j.next : Int)) := hj.blk.cell 3
  have c4 : w.cell? ⟨qb, 4, none⟩ = some (.int .i64 (j.area : Int)) := hj.blk.cell 4
  have c6 : w.cell? ⟨qb, 6, none⟩ = some (.bool j.dead) := hj.blk.cell 6
  clear hd hj hap hz
  cases hde : j.dead
  · rw [hde] at c6
    by_cases hlong : 60000 < s.size
    · have g1 : (60000 : Int) < (s.size : Int) := by omega
      have hF : Hid (saveF m j s = (m, j, 2)) := Lib.hid (by
        have hm : j.may s (jsize m : Int) = (0, 2) := by unfold JM.may fitsF; rw [hde]; simp only [Bool.false_eq_true, if_false, if_pos hlong]; rfl
        unfold saveF; rw [hm, if_pos (show (2 : Int) ≠ 0 by decide)])
      clear hde
      go_enter Tryz.func14, Tryz.ntmps14
      go_wp2_with fail
      go_ret
      rw [hF.out]
      exact ⟨rfl, HD.out, Only.refl _ _, _, HJ.out, fun k hk => .inl hk⟩
    · have g1 : ¬ (60000 : Int) < (s.size : Int) := by omega
      obtain ⟨z, hze⟩ : ∃ z, z = jsize m := ⟨_, rfl⟩
      have HZE := Lib.hid hze
      rw [← hze] at hjl
      have hmay : Hid (j.may s (jsize m : Int) = if z < sizeN s.size then (0, 73) else if 2148483648 < j.next then ((sizeN s.size : Int), 73) else ((sizeN s.size : Int), 0)) := Lib.hid (by
        unfold JM.may fitsF
        rw [hde]
        simp only [Bool.false_eq_true, if_false, if_neg hlong]
        by_cases h1 : z < sizeN s.size
        · rw [if_pos (show (jsize m : Int) < (sizeN s.size : Int) by omega), if_pos h1]
          dsimp only
          rw [if_neg (fun h => absurd h.1 (by decide))]
        · rw [if_neg (show ¬ (jsize m : Int) < (sizeN s.size : Int) by omega), if_neg h1]
          dsimp only
          by_cases h2 : 2148483648 < j.next
          · rw [if_pos ⟨rfl, h2⟩, if_pos h2]
          · rw [if_neg (fun h => h2 h.2), if_neg h2])
      have hsn := sizeN_le (k := s.size) (by omega)
      have HDE := Lib.hid hde
      clear hde hze
      go_enter Tryz.func14, Tryz.ntmps14
      go_wp2_with fail
      refine (rfSize_any (s.size : Int) _).mono ?_
      rintro e w1 ⟨rfl, hw1⟩
      have hw1 := hw1.symm
      subst hw1
      rw [sizeF_nat (by omega)]
      go_wp2_with fail
      refine (rjRoom_any rb sb m HZ.out _ HD.out).mono ?_
      rintro e w1 ⟨rfl, hw1⟩
      have hw1 := hw1.symm
      subst hw1
      rw [← HZE.out]
      by_cases hfull : z < sizeN s.size
      · have g2 : (z : Int) < (sizeN s.size : Int) := by omega
        have hF : Hid (saveF m j s = (m, j, 73)) := Lib.hid (by unfold saveF; rw [hmay.out, if_pos hfull, if_pos (show (73 : Int) ≠ 0 by decide)])
        go_wp2_with fail
        go_ret
        rw [hF.out]
        exact ⟨rfl, HD.out, Only.refl _ _, _, HJ.out, fun k hk => .inl hk⟩
      · have g2 : ¬ (z : Int) < (sizeN s.size : Int) := by omega
        by_cases hmost : 2148483648 < j.next
        · have g3 : (2148483648 : Int) < (j.next : Int) := by omega
          have hF : Hid (saveF m j s = (m, j, 73)) := Lib.hid (by unfold saveF; rw [hmay.out, if_neg hfull, if_pos hmost, if_pos (show (73 : Int) ≠ 0 by decide)])
          go_wp2_with fail
          go_ret
          rw [hF.out]
          exact ⟨rfl, HD.out, Only.refl _ _, _, HJ.out, fun k hk => .inl hk⟩
        · have g3 : ¬ (2148483648 : Int) < (j.next : Int) := by omega
          have E4 : Hid ((j.next : Int) + 1 = ((j.next + 1 : Nat) : Int)) := Lib.hid (by omega)
          have HU9 : Hid (sizeN s.size ≤ 100000) := Lib.hid (by omega)
          have HN9 : Hid (j.next + 1 < 4294967296) := Lib.hid (by omega)
          obtain ⟨oa, hoa⟩ : ∃ a, a = 1 - j.area := ⟨_, rfl⟩
          have hoa1 : oa ≤ 1 := by omega
          have E1 : Hid ((1 : Int) - (j.area : Int) = (oa : Int)) := Lib.hid (by omega)
          obtain ⟨at_, hat⟩ : ∃ a, a = firstF m oa := ⟨_, rfl⟩
          have hal : at_ ≤ 100000 := by
            have hzz := HZE.out
            rw [hat]; unfold firstF
            rcases (by omega : oa = 0 ∨ oa = 1) with h | h <;> rw [h] <;> omega
          have HAT := Lib.hid hat
          have HOA := Lib.hid hoa
          obtain ⟨q, hq⟩ : ∃ q, q = writeF m (at_ : Int) j.next s := ⟨_, rfl⟩
          have HQ := Lib.hid hq
          have hB0 : Hid (saveF m j s = if (beginF m oa j.next s).2 ≠ 0 then ((beginF m oa j.next s).1, { j with dead := true }, (beginF m oa j.next s).2) else ((beginF m oa j.next s).1, ⟨oa, s, [], j.next + 1, sizeN s.size, j.dead⟩, 0)) := Lib.hid (by
            unfold saveF; rw [hmay.out, if_neg hfull, if_neg hmost, if_neg (by simp), ← hoa])
          have hB1 : Hid (beginF m oa j.next s = if q.2 ≠ 0 then q else writeF q.1 oa j.next (headB oa)) := Lib.hid (by unfold beginF; rw [← hat, ← hq])
          clear hat hq hoa
          go_wp2_with fail
          rw [E1.out]
          refine wp_region_held_drew (S := fun w' => w'.cell? ⟨qb, 0, none⟩ = some (.pointer (some ⟨rb, 0, none⟩)) ∧ w'.cell? ⟨qb, 3, none⟩ = some (.int .u32 (j.next : Int))) (by kernel_rfl) ⟨c0, c3⟩ (fun hHeld => ?_)
          refine take_op 0 (some 37) (v := ?_) rfl rfl (by kernel_rfl) (by kernel_rfl) (by kernel_rfl) (fun _ _ _ h => h) (Or.inl ⟨by rfl, ?_⟩) (by assumption) ?_
          rotate_left
          · intro w_ hSw_; (try dsimp only at hSw_); go_simp; (try with_reducible rfl)
          try simp only [Act.put, List.setIfInBounds_toArray, List.set_cons_zero, List.set_cons_succ]
          refine take_op 1 (some 38) (v := ?_) rfl rfl (by kernel_rfl) (by kernel_rfl) (by kernel_rfl) (fun _ _ _ h => h) (Or.inl ⟨by rfl, ?_⟩) (by assumption) ?_
          rotate_left
          · intro w_ hSw_; (try dsimp only at hSw_); go_simp; (try with_reducible rfl)
          try simp only [Act.put, List.setIfInBounds_toArray, List.set_cons_zero, List.set_cons_succ]
          refine take_op 2 (some 39) (v := ?_) rfl rfl (by kernel_rfl) (by kernel_rfl) (by kernel_rfl) (fun _ _ _ h => h) (Or.inl ⟨by rfl, ?_⟩) (by assumption) ?_
          rotate_left
          · intro w_ hSw_; (try dsimp only at hSw_); go_simp; (try with_reducible rfl)
          try simp only [Act.put, List.setIfInBounds_toArray, List.set_cons_zero, List.set_cons_succ]
          refine take_op 3 (some 40) (v := ?_) rfl rfl (by kernel_rfl) (by kernel_rfl) (by kernel_rfl) (fun _ _ _ h => h) (Or.inl ⟨by rfl, ?_⟩) (by assumption) ?_
          rotate_left
          · intro w_ hSw_; (try dsimp only at hSw_); go_simp; (try with_reducible rfl)
          try simp only [Act.put, List.setIfInBounds_toArray, List.set_cons_zero, List.set_cons_succ]
          refine take_op 4 (some 41) (v := ?_) rfl rfl (by kernel_rfl) (by kernel_rfl) (by kernel_rfl) (fun _ _ _ h => h) (Or.inl ⟨by rfl, ?_⟩) (by assumption) ?_
          rotate_left
          · intro w_ hSw_; (try dsimp only at hSw_); go_simp; (try with_reducible rfl)
          try simp only [Act.put, List.setIfInBounds_toArray, List.set_cons_zero, List.set_cons_succ]
          refine take_op 5 (some 42) (v := ?_) rfl rfl (by kernel_rfl) (by kernel_rfl) (by kernel_rfl) (fun _ _ _ h => h) (Or.inl ⟨by rfl, ?_⟩) (by assumption) ?_
          rotate_left
          · intro w_ hSw_; (try dsimp only at hSw_); go_simp; (try with_reducible rfl)
          try simp only [Act.put, List.setIfInBounds_toArray, List.set_cons_zero, List.set_cons_succ]
          refine take_op 6 (some 43) (v := ?_) rfl rfl (by kernel_rfl) (by kernel_rfl) (by kernel_rfl) (fun _ _ _ h => h) (Or.inl ⟨by rfl, ?_⟩) (by assumption) ?_
          rotate_left
          · intro w_ hSw_; (try dsimp only at hSw_); go_simp; (try with_reducible rfl)
          try simp only [Act.put, List.setIfInBounds_toArray, List.set_cons_zero, List.set_cons_succ]
          refine take_op 7 (some 44) (v := ?_) rfl rfl (by kernel_rfl) (by kernel_rfl) (by kernel_rfl) (fun _ _ _ h => h) (Or.inl ⟨by rfl, ?_⟩) (by assumption) ?_
          rotate_left
          · intro w_ hSw_; (try dsimp only at hSw_); go_simp; (try with_reducible rfl)
          try simp only [Act.put, List.setIfInBounds_toArray, List.set_cons_zero, List.set_cons_succ]
          refine take_op 8 (some 45) (v := ?_) rfl rfl (by kernel_rfl) (by kernel_rfl) (by kernel_rfl) (fun _ _ _ h => h) (Or.inl ⟨by rfl, ?_⟩) (by assumption) ?_
          rotate_left
          · intro w_ hSw_; (try dsimp only at hSw_); go_simp; (try with_reducible rfl)
          try simp only [Act.put, List.setIfInBounds_toArray, List.set_cons_zero, List.set_cons_succ]
          refine take_op 10 (some 47) (v := ?_) rfl rfl (by kernel_rfl) (by kernel_rfl) (by kernel_rfl) (fun _ _ _ h => h) (Or.inl ⟨by rfl, ?_⟩) (by assumption) ?_
          rotate_left
          · intro w_ hSw_; (try dsimp only at hSw_); go_simp; (try with_reducible rfl)
          try simp only [Act.put, List.setIfInBounds_toArray, List.set_cons_zero, List.set_cons_succ]
          refine take_op 11 (some 48) (v := ?_) rfl rfl (by kernel_rfl) (by kernel_rfl) (by kernel_rfl) (fun _ _ _ h => h) (Or.inl ⟨by rfl, ?_⟩) (by assumption) ?_
          rotate_left
          · intro w_ hSw_; (try dsimp only at hSw_); go_simp; (try with_reducible rfl)
          try simp only [Act.put, List.setIfInBounds_toArray, List.set_cons_zero, List.set_cons_succ]
          refine take_op 12 (some 49) (v := ?_) rfl rfl (by kernel_rfl) (by kernel_rfl) (by kernel_rfl) (fun _ _ _ h => h) (Or.inl ⟨by rfl, ?_⟩) (by assumption) ?_
          rotate_left
          · intro w_ hSw_; (try dsimp only at hSw_); go_simp; (try with_reducible rfl)
          try simp only [Act.put, List.setIfInBounds_toArray, List.set_cons_zero, List.set_cons_succ]
          refine take_op 13 (some 50) (v := ?_) rfl rfl (by kernel_rfl) (by kernel_rfl) (by kernel_rfl) (fun _ _ _ h => h) (Or.inl ⟨by rfl, ?_⟩) (by assumption) ?_
          rotate_left
          · intro w_ hSw_; (try dsimp only at hSw_); go_simp; (try with_reducible rfl)
          try simp only [Act.put, List.setIfInBounds_toArray, List.set_cons_zero, List.set_cons_succ]
          refine take_op 14 (some 51) (v := ?_) rfl rfl (by kernel_rfl) (by kernel_rfl) (by kernel_rfl) (fun _ _ _ h => h) (Or.inl ⟨by rfl, ?_⟩) (by assumption) ?_
          rotate_left
          · intro w_ hSw_; (try dsimp only at hSw_); go_simp; (try with_reducible rfl)
          try simp only [Act.put, List.setIfInBounds_toArray, List.set_cons_zero, List.set_cons_succ]
          refine go_op 9 rfl (by kernel_rfl) (fun K_ hK_ => ?_)
          go_simp
          refine (rjStart_any rb sb m HZ.out oa hoa1 _ (HD.out.only ((Only.refl (fun _ => False) _).drew) (fun h => h) (fun h => h))).mono ?_
          rintro e w2 ⟨rfl, hw2⟩
          have hw2 := hw2.symm
          subst hw2
          rw [← HAT.out]
          simp only [Act.put, List.setIfInBounds_toArray, List.set_cons_zero, List.set_cons_succ]
          refine hK_.out _ _ hHeld (fun hHeld_ => ?_)
          refine go_op 15 rfl (by kernel_rfl) (fun K_ hK_ => ?_)
          go_simp
          refine (rjWrite_any rb sb m at_ hal j.next hn0 hnx s (by omega) _ (HD.out.only ((Only.refl (fun _ => False) _).drew) (fun h => h) (fun h => h))).mono ?_
          rintro e w3 ⟨rfl, hd3, ho3⟩
          have ho3 := (Only.refl (own2 rb sb) w).drew.trans ho3
          have hj3 := HJ.out.only ho3 HAP.out.1 (fun k hk => (HAP.out.2 k hk).1)
          rw [← HQ.out] at hd3 ⊢
          have HD3 := Lib.hid hd3
          have HO3 := Lib.hid ho3
          have HJ3 := Lib.hid hj3
          clear hd3 ho3 hj3
          try simp only [Act.put, List.setIfInBounds_toArray, List.set_cons_zero, List.set_cons_succ]
          refine hK_.out _ _ ⟨HJ3.out.blk.cell 0, HJ3.out.blk.cell 3⟩ (fun hHeld_ => ?_)
          refine take_op 16 (some 7) (v := ?_) rfl rfl (by kernel_rfl) (by kernel_rfl) (by kernel_rfl) (fun _ _ _ h => h) (Or.inl ⟨by rfl, ?_⟩) (by assumption) ?_
          rotate_left
          · intro w_ hSw_; (try dsimp only at hSw_); go_simp; (try with_reducible rfl)
          try simp only [Act.put, List.setIfInBounds_toArray, List.set_cons_zero, List.set_cons_succ]
          refine wpAnyH_done (by kernel_rfl) ?_ _
          obtain ⟨m1, er1⟩ := q
          dsimp only at HD3 hB1 ⊢
          by_cases he1 : er1 = 0
          · subst he1
            obtain ⟨q2, hq2⟩ : ∃ q2, q2 = writeF m1 (oa : Int) j.next (headB oa) := ⟨_, rfl⟩
            have HQ2 := Lib.hid hq2
            have hB2 : Hid (beginF m oa j.next s = q2) := Lib.hid (by rw [hB1.out, if_neg (by simp), hq2])
            have x0 : w3.cell? ⟨qb, 0, none⟩ = some (.pointer (some ⟨rb, 0, none⟩)) := HJ3.out.blk.cell 0
            have x3 : w3.cell? ⟨qb, 3, none⟩ = some (.int .u32 (j.next : Int)) := HJ3.out.blk.cell 3
            clear hq2
            go_wp2_with fail
            refine wp_region_held_drew (S := fun w' => w'.cell? ⟨qb, 0, none⟩ = some (.pointer (some ⟨rb, 0, none⟩)) ∧ w'.cell? ⟨qb, 3, none⟩ = some (.int .u32 (j.next : Int))) (by kernel_rfl) ⟨x0, x3⟩ (fun hHeld => ?_)
            refine take_op 0 (some 55) (v := ?_) rfl rfl (by kernel_rfl) (by kernel_rfl) (by kernel_rfl) (fun _ _ _ h => h) (Or.inl ⟨by rfl, ?_⟩) (by assumption) ?_
            rotate_left
            · intro w_ hSw_; (try dsimp only at hSw_); go_simp; (try with_reducible rfl)
            try simp only [Act.put, List.setIfInBounds_toArray, List.set_cons_zero, List.set_cons_succ]
            refine take_op 1 (some 56) (v := ?_) rfl rfl (by kernel_rfl) (by kernel_rfl) (by kernel_rfl) (fun _ _ _ h => h) (Or.inl ⟨by rfl, ?_⟩) (by assumption) ?_
            rotate_left
            · intro w_ hSw_; (try dsimp only at hSw_); go_simp; (try with_reducible rfl)
            try simp only [Act.put, List.setIfInBounds_toArray, List.set_cons_zero, List.set_cons_succ]
            refine take_op 2 (some 57) (v := ?_) rfl rfl (by kernel_rfl) (by kernel_rfl) (by kernel_rfl) (fun _ _ _ h => h) (Or.inl ⟨by rfl, ?_⟩) (by assumption) ?_
            rotate_left
            · intro w_ hSw_; (try dsimp only at hSw_); go_simp; (try with_reducible rfl)
            try simp only [Act.put, List.setIfInBounds_toArray, List.set_cons_zero, List.set_cons_succ]
            refine take_op 3 (some 58) (v := ?_) rfl rfl (by kernel_rfl) (by kernel_rfl) (by kernel_rfl) (fun _ _ _ h => h) (Or.inl ⟨by rfl, ?_⟩) (by assumption) ?_
            rotate_left
            · intro w_ hSw_; (try dsimp only at hSw_); go_simp; (try with_reducible rfl)
            try simp only [Act.put, List.setIfInBounds_toArray, List.set_cons_zero, List.set_cons_succ]
            refine take_op 4 (some 59) (v := ?_) rfl rfl (by kernel_rfl) (by kernel_rfl) (by kernel_rfl) (fun _ _ _ h => h) (Or.inl ⟨by rfl, ?_⟩) (by assumption) ?_
            rotate_left
            · intro w_ hSw_; (try dsimp only at hSw_); go_simp; (try with_reducible rfl)
            try simp only [Act.put, List.setIfInBounds_toArray, List.set_cons_zero, List.set_cons_succ]
            refine take_op 5 (some 60) (v := ?_) rfl rfl (by kernel_rfl) (by kernel_rfl) (by kernel_rfl) (fun _ _ _ h => h) (Or.inl ⟨by rfl, ?_⟩) (by assumption) ?_
            rotate_left
            · intro w_ hSw_; (try dsimp only at hSw_); go_simp; (try with_reducible rfl)
            try simp only [Act.put, List.setIfInBounds_toArray, List.set_cons_zero, List.set_cons_succ]
            refine take_op 6 (some 61) (v := ?_) rfl rfl (by kernel_rfl) (by kernel_rfl) (by kernel_rfl) (fun _ _ _ h => h) (Or.inl ⟨by rfl, ?_⟩) (by assumption) ?_
            rotate_left
            · intro w_ hSw_; (try dsimp only at hSw_); go_simp; (try with_reducible rfl)
            try simp only [Act.put, List.setIfInBounds_toArray, List.set_cons_zero, List.set_cons_succ]
            refine take_op 7 (some 62) (v := ?_) rfl rfl (by kernel_rfl) (by kernel_rfl) (by kernel_rfl) (fun _ _ _ h => h) (Or.inl ⟨by rfl, ?_⟩) (by assumption) ?_
            rotate_left
            · intro w_ hSw_; (try dsimp only at hSw_); go_simp; (try with_reducible rfl)
            try simp only [Act.put, List.setIfInBounds_toArray, List.set_cons_zero, List.set_cons_succ]
            refine take_op 8 (some 63) (v := ?_) rfl rfl (by kernel_rfl) (by kernel_rfl) (by kernel_rfl) (fun _ _ _ h => h) (Or.inl ⟨by rfl, ?_⟩) (by assumption) ?_
            rotate_left
            · intro w_ hSw_; (try dsimp only at hSw_); go_simp; (try with_reducible rfl)
            try simp only [Act.put, List.setIfInBounds_toArray, List.set_cons_zero, List.set_cons_succ]
            refine take_op 9 (some 64) (v := ?_) rfl rfl (by kernel_rfl) (by kernel_rfl) (by kernel_rfl) (fun _ _ _ h => h) (Or.inl ⟨by rfl, ?_⟩) (by assumption) ?_
            rotate_left
            · intro w_ hSw_; (try dsimp only at hSw_); go_simp; (try with_reducible rfl)
            try simp only [Act.put, List.setIfInBounds_toArray, List.set_cons_zero, List.set_cons_succ]
            refine go_op 10 rfl (by kernel_rfl) (fun K_ hK_ => ?_)
            go_simp
            refine (rjHead_any oa hoa1 _).mono ?_
            rintro e w4 ⟨rfl, hb4⟩
            have hb4 := (Below.refl w3.heap.size w3).drew.trans hb4
            have HD4 := Lib.hid (HD3.out.grown hb4)
            have HJ4 := Lib.hid (HJ3.out.grown hb4)
            have HB4 := Lib.hid hb4
            clear hb4
            try simp only [Act.put, List.setIfInBounds_toArray, List.set_cons_zero, List.set_cons_succ]
            refine hK_.out _ _ ⟨HJ4.out.blk.cell 0, HJ4.out.blk.cell 3⟩ (fun hHeld_ => ?_)
            refine go_op 11 rfl (by kernel_rfl) (fun K_ hK_ => ?_)
            go_simp
            refine (rjWrite_any rb sb m1 oa (by omega) j.next hn0 hnx (headB oa) (by rw [headB_size]; omega) _ HD4.out).mono ?_
            rintro e w5 ⟨rfl, hd5, ho5⟩
            rw [← HQ2.out] at hd5 ⊢
            have HJ5 := Lib.hid (HJ4.out.only ho5 HAP.out.1 (fun k hk => (HAP.out.2 k hk).1))
            have HD5 := Lib.hid hd5
            have HO5 := Lib.hid (((HO3.out.mono (T := fun k => own2 rb sb k ∨ k = qb) (fun k _ h => .inl h)).trans (Only.of_below HB4.out)).trans (ho5.mono (T := fun k => own2 rb sb k ∨ k = qb) (fun k _ h => .inl h)))
            clear hd5 ho5
            try simp only [Act.put, List.setIfInBounds_toArray, List.set_cons_zero, List.set_cons_succ]
            refine hK_.out _ _ ⟨HJ5.out.blk.cell 0, HJ5.out.blk.cell 3⟩ (fun hHeld_ => ?_)
            refine take_op 12 (some 7) (v := ?_) rfl rfl (by kernel_rfl) (by kernel_rfl) (by kernel_rfl) (fun _ _ _ h => h) (Or.inl ⟨by rfl, ?_⟩) (by assumption) ?_
            rotate_left
            · intro w_ hSw_; (try dsimp only at hSw_); go_simp; (try with_reducible rfl)
            try simp only [Act.put, List.setIfInBounds_toArray, List.set_cons_zero, List.set_cons_succ]
            refine wpAnyH_done (by kernel_rfl) ?_ _
            obtain ⟨m2, er2⟩ := q2
            dsimp only at HD5 hB2 ⊢
            by_cases he2 : er2 = 0
            · subst he2
              have hF : Hid (saveF m j s = (m2, ⟨oa, s, [], j.next + 1, sizeN s.size, j.dead⟩, 0)) := Lib.hid (by rw [hB0.out, hB2.out, if_neg (by simp)])
              have d1 : w5.cell? ⟨qb, 1, none⟩ = some (.string j.base) := HJ5.out.blk.cell 1
              have d2 : w5.cell? ⟨qb, 2, none⟩ = some v := HJ5.out.blk.cell 2
              have d3 : w5.cell? ⟨qb, 3, none⟩ = some (.int .u32 (j.next : Int)) := HJ5.out.blk.cell 3
              have d4 : w5.cell? ⟨qb, 4, none⟩ = some (.int .i64 (j.area : Int)) := HJ5.out.blk.cell 4
              have d5 : w5.cell? ⟨qb, 5, none⟩ = some (.int .i64 (j.used : Int)) := HJ5.out.blk.cell 5
              have f1 := HJ5.out.blk.free 1
              have f2 := HJ5.out.blk.free 2
              have f3 := HJ5.out.blk.free 3
              have f4 := HJ5.out.blk.free 4
              have f5 := HJ5.out.blk.free 5
              go_wp2_with fail
              go_ret
              rw [hF.out, E4.out]
              obtain ⟨wF, hwF⟩ : ∃ wF, wF = ((((w5.setCell ⟨qb, 1, none⟩ (.string s)).setCell ⟨qb, 2, none⟩ (.slice none 0 0)).setCell ⟨qb, 4, none⟩ (.int .i64 (oa : Int))).setCell ⟨qb, 5, none⟩ (.int .i64 (sizeN s.size : Int))).setCell ⟨qb, 3, none⟩ (.int .u32 ((j.next + 1 : Nat) : Int)) := ⟨_, rfl⟩
              have hfin : Only (fun k => k = qb) w5 wF := by
                rw [hwF]
                exact (((((Only.refl (fun k => k = qb) w5).setCell (fun _ => rfl) _).setCell (fun _ => rfl) _).setCell (fun _ => rfl) _).setCell (fun _ => rfl) _).setCell (fun _ => rfl) _
              have hblkF : Blk wF qb (rjRow rb (.slice none 0 0) ⟨oa, s, [], j.next + 1, sizeN s.size, j.dead⟩) 83 := by
                rw [hwF]
                exact ((((HJ5.out.blk.setCell 1 (.string s)).setCell 2 (.slice none 0 0)).setCell 4 (.int .i64 (oa : Int))).setCell 5 (.int .i64 (sizeN s.size : Int))).setCell 3 (.int .u32 ((j.next + 1 : Nat) : Int))
              rw [← hwF]
              exact ⟨rfl, HD5.out.only hfin (fun h => HAP.out.1 (.inl h.symm)) (fun h => HAP.out.1 (.inr h.symm)), HO5.out.trans (hfin.mono (fun k _ h => .inr h)), _, ⟨⟨hoa1, HN9.out, HU9.out, Nat.zero_le _⟩, hblkF, ⟨rfl, .inl ⟨rfl, rfl⟩⟩⟩, fun k hk => by cases hk⟩
            · have g4 : (er2 != 0) = true := by simpa using he2
              have hF : Hid (saveF m j s = (m2, { j with dead := true }, er2)) := Lib.hid (by rw [hB0.out, hB2.out, if_pos he2])
              have x6 : w5.cell? ⟨qb, 6, none⟩ = some (.bool j.dead) := HJ5.out.blk.cell 6
              have f6 := HJ5.out.blk.free 6
              go_wp2_with fail
              go_ret
              rw [hF.out]
              have hfin : Only (fun k => k = qb) w5 (w5.setCell ⟨qb, 6, none⟩ (.bool true)) := (Only.refl (fun k => k = qb) w5).setCell (p := ⟨qb, 6, none⟩) (fun _ => rfl) _
              have hwf := HJ5.out.wf
              exact ⟨rfl, HD5.out.only hfin (fun h => HAP.out.1 (.inl h.symm)) (fun h => HAP.out.1 (.inr h.symm)), HO5.out.trans (hfin.mono (fun k _ h => .inr h)), _, ⟨⟨hwf.1, hwf.2, hwf.3, hwf.4⟩, HJ5.out.blk.setCell 6 (.bool true), owns_only HJ5.out.row hfin (fun k hk => (HAP.out.2 k hk).2)⟩, fun k hk => .inl hk⟩
          · have g4 : (er1 != 0) = true := by simpa using he1
            have g5 : (er1 == 0) = false := by simpa using he1
            have hF : Hid (saveF m j s = (m1, { j with dead := true }, er1)) := Lib.hid (by rw [hB0.out, hB1.out, if_pos he1]; dsimp only; rw [if_pos he1])
            have x6 : w3.cell? ⟨qb, 6, none⟩ = some (.bool j.dead) := HJ3.out.blk.cell 6
            have f6 := HJ3.out.blk.free 6
            go_wp2_with fail
            go_ret
            rw [hF.out]
            have hfin : Only (fun k => k = qb) w3 (w3.setCell ⟨qb, 6, none⟩ (.bool true)) := (Only.refl (fun k => k = qb) w3).setCell (p := ⟨qb, 6, none⟩) (fun _ => rfl) _
            have hwf := HJ3.out.wf
            exact ⟨rfl, HD3.out.only hfin (fun h => HAP.out.1 (.inl h.symm)) (fun h => HAP.out.1 (.inr h.symm)), (HO3.out.mono (T := fun k => own2 rb sb k ∨ k = qb) (fun k _ h => .inl h)).trans (hfin.mono (fun k _ h => .inr h)), _, ⟨⟨hwf.1, hwf.2, hwf.3, hwf.4⟩, HJ3.out.blk.setCell 6 (.bool true), owns_only HJ3.out.row hfin (fun k hk => (HAP.out.2 k hk).2)⟩, fun k hk => .inl hk⟩
  · rw [hde] at c6
    have hF : Hid (saveF m j s = (m, j, 74)) := Lib.hid (by
      have hm : j.may s (jsize m : Int) = (0, 74) := by unfold JM.may; rw [hde, if_pos rfl]
      unfold saveF; rw [hm, if_pos (show (74 : Int) ≠ 0 by decide)])
    clear hde
    go_enter Tryz.func14, Tryz.ntmps14
    go_wp2_with fail
    go_ret
    rw [hF.out]
    exact ⟨rfl, HD.out, Only.refl _ _, _, HJ.out, fun k hk => .inl hk⟩
end Go.Proofs.YtcakellhellddaaGreatDoor
namespace Go.Proofs.YtcakellhellddaaGreatDoor
open Go.RowKit
/-- What the reference's Format leaves. -/
def RFormat (rb sb : Nat) (r : DM × Option JM × Int) (w : World) (e : Ending) (w' : World) : Prop :=
  RefAt w' rb sb r.1 ∧ Only (own2 rb sb) w w' ∧
  match r.2.1 with
  | none => e = .returned (.tuple #[.pointer none, .int .i64 r.2.2])
  | some j => ∃ qb, e = .returned (.tuple #[.pointer (some ⟨qb, 0, none⟩), .int .i64 r.2.2]) ∧ RJ w' qb rb (.slice none 0 0) j ∧ w.heap.size ≤ qb
set_option maxRecDepth 100000 in
set_option maxHeartbeats 4000000 in
theorem rjFormat_any (rb sb : Nat) (m : DM) (base : ByteArray) (hbm : base.size ≤ maxLen) (w : World) (h : RefAt w rb sb m) :
    Calls Tryz.prog 9 #[.pointer (some ⟨rb, 0, none⟩), .string base] w (RFormat rb sb (formatF m base) w) := by
  obtain ⟨cap, c0, hc1, hc2⟩ := h.cell0
  have HD := Lib.hid h
  have HLT := Lib.hid h.lt
  have hwf := Lib.hid h.wf
  have hjl := jsize_le h.wf
  have hlen := h.wf.len
  unfold maxLen at hbm hc2
  obtain ⟨N, hN⟩ : ∃ N, N = m.S.length := ⟨_, rfl⟩
  rw [← hN] at hlen c0 hc1
  have HN := Lib.hid hN
  have HC0 := Lib.hid c0
  clear h hN
  by_cases hz0 : jsize m = 0
  · have hF : Hid (formatF m base = (m, none, 1)) := Lib.hid (by unfold formatF; rw [if_pos hz0])
    have hdec : Hid (decide (jsize m ≠ 0) = false) := Lib.hid (by simp [hz0])
    clear hz0
    go_enter Tryz.func9, Tryz.ntmps9
    go_wp2_with fail
    refine (rjFits_any rb sb m _ HD.out).mono ?_
    rintro e w1 ⟨rfl, hb1⟩
    rw [hdec.out]
    go_wp2_with fail
    go_ret2
    rw [hF.out]
    exact ⟨HD.out.grown hb1, Only.of_below hb1, rfl⟩
  have HZ := Lib.hid hz0
  have hdec : Hid (decide (jsize m ≠ 0) = true) := Lib.hid (by simp [hz0])
  obtain ⟨z, hz⟩ : ∃ z, z = jsize m := ⟨_, rfl⟩
  rw [← hz] at hjl
  have HZE := Lib.hid hz
  clear hz hz0
  go_enter Tryz.func9, Tryz.ntmps9
  go_wp2_with fail
  refine (rjFits_any rb sb m _ HD.out).mono ?_
  rintro e w1 ⟨rfl, hb1⟩
  rw [hdec.out]
  have HB1 := Lib.hid hb1
  have HD1 := Lib.hid (HD.out.grown hb1)
  clear hb1
  by_cases hlong : 60000 < base.size
  · have g1 : (60000 : Int) < (base.size : Int) := by omega
    have hF : Hid (formatF m base = (m, none, 2)) := Lib.hid (by
      have hfit : fitsF base (jsize m) = (0, 2) := by unfold fitsF; rw [if_pos hlong]
      unfold formatF; rw [if_neg HZ.out, hfit, if_pos (show (2 : Int) ≠ 0 by decide)])
    go_wp2_with fail
    go_ret2
    rw [hF.out]
    exact ⟨HD1.out, Only.of_below HB1.out, rfl⟩
  have g1 : ¬ (60000 : Int) < (base.size : Int) := by omega
  have gd1 : decide ((60000 : Int) < (base.size : Int)) = false := decide_eq_false g1
  have hsn := sizeN_le (k := base.size) (by omega)
  go_wp2_with fail
  refine (rfSize_any (base.size : Int) _).mono ?_
  rintro e w2 ⟨rfl, hw2⟩
  have hw2 := hw2.symm
  subst hw2
  rw [sizeF_nat (by omega)]
  go_wp2_with fail
  refine (rjRoom_any rb sb m HZ.out _ HD1.out).mono ?_
  rintro e w2 ⟨rfl, hw2⟩
  have hw2 := hw2.symm
  subst hw2
  rw [← HZE.out]
  by_cases hfull : z < sizeN base.size
  · have g2 : (z : Int) < (sizeN base.size : Int) := by omega
    have hF : Hid (formatF m base = (m, none, 73)) := Lib.hid (by
      have hfit : fitsF base (jsize m) = (0, 73) := by unfold fitsF; rw [if_neg hlong, if_pos (by rw [← HZE.out]; omega)]
      unfold formatF; rw [if_neg HZ.out, hfit, if_pos (show (73 : Int) ≠ 0 by decide)])
    go_wp2_with fail
    go_ret2
    rw [hF.out]
    exact ⟨HD1.out, Only.of_below HB1.out, rfl⟩
  have g2 : ¬ (z : Int) < (sizeN base.size : Int) := by omega
  have gd2 : decide (z < sizeN base.size) = false := decide_eq_false hfull
  have hF0 : Hid (formatF m base = if m.dead then (m, none, 74) else if 2147483648 < topN m m.S.length then (m, none, 73)
      else if (beginF m 0 (topN m m.S.length + 1) base).2 ≠ 0 then ((beginF m 0 (topN m m.S.length + 1) base).1, none, (beginF m 0 (topN m m.S.length + 1) base).2)
      else ((beginF m 0 (topN m m.S.length + 1) base).1, some ⟨0, base, [], topN m m.S.length + 2, sizeN base.size, false⟩, 0)) := Lib.hid (by
    have hfit : fitsF base (jsize m) = ((sizeN base.size : Int), 0) := by unfold fitsF; rw [if_neg hlong, if_neg (by rw [← HZE.out]; omega)]
    unfold formatF; rw [if_neg HZ.out, hfit, if_neg (by simp)])
  have HL := Lib.hid hlong
  clear hlong hfull c0
  go_wp2_with fail
  go_loopw [7, 8] (fun y x wr => ∃ i : Nat, i ≤ N ∧ x = .int .i64 i ∧ y = .int .u32 (topN m i : Int) ∧ Below w.heap.size w wr ∧ (0 < i → m.dead = false)) (fun _ x _ => N - (intOf x).toNat)
  case atStart => exact ⟨0, Nat.zero_le _, rfl, rfl, HB1.out, fun h => by omega⟩
  case round =>
    obtain ⟨i, hi, rfl, rfl, hB, hdd⟩ := hrel
    have HB := Lib.hid hB
    have HDR := Lib.hid (HD.out.grown hB)
    have c0 : wr.cell? ⟨rb, 0, none⟩ = some (.slice (some ⟨sb, 0, none⟩) N cap) := (hB.cell (p := ⟨rb, 0, none⟩) HLT.out.1).trans HC0.out
    have HDD := Lib.hid hdd
    clear hB hdd
    have htl := topN_lt m i
    by_cases hlt : i < N
    · have g3 : (i : Int) < (N : Int) := by omega
      go_wp2_with fail
      refine (ref_read rb sb m (i : Int) _ HDR.out).mono ?_
      rintro e w4 ⟨rfl, hw4⟩
      have hw4 := hw4.symm
      subst hw4
      cases hde : m.dead
      · have hr : m.read (i : Int) = (m.at i, 0) := by
          unfold DM.read DM.may DM.good
          rw [hde, ← HN.out]
          simp [hlt]
        have hsz : (m.at i).size = 256 := DM.at_size hwf.out (by rw [← HN.out]; exact hlt)
        rw [hr]
        obtain ⟨x, hx⟩ : ∃ x, x = m.at i := ⟨_, rfl⟩
        rw [← hx] at hsz ⊢
        have HX := Lib.hid hx
        have HS := Lib.hid hsz
        have HDE := Lib.hid hde
        clear hr hx hsz hde
        dsimp only
        go_wp2_with fail
        refine (rfNum_any x (by rw [HS.out]; simp [maxLen]) _).mono ?_
        rintro e w5 ⟨rfl, hb5⟩
        have HB5 := Lib.hid (HB.out.trans (hb5.mono HB.out.size))
        clear hb5
        go_wp2_with fail
        go_roundw
        case rel =>
          refine ⟨i + 1, by omega, by go_num, ?_, HB5.out, fun _ => HDE.out⟩
          show Value.int .u32 (max (topN m i : Int) (secNum x : Int)) = Value.int .u32 ((max (topN m i) (secNum (m.at i)) : Nat) : Int)
          rw [← HX.out]
          congr 1
          omega
        case measure => simp [intOf]; omega
      · have hr : (m.read (i : Int)).2 = 74 := by
          unfold DM.read DM.may
          rw [hde]; rfl
        rw [hr]
        have hF : Hid (formatF m base = (m, none, 74)) := Lib.hid (by rw [hF0.out, hde]; rfl)
        clear hde hr
        go_wp2_with fail
        go_ret2
        rw [hF.out]
        exact ⟨HDR.out, Only.of_below HB.out, rfl⟩
    · have hiN : i = N := by omega
      have g3 : ¬ (i : Int) < (N : Int) := by omega
      have hdead := HDD.out (by omega)
      rw [hiN] at htl ⊢
      obtain ⟨T, hT⟩ : ∃ T, T = topN m N := ⟨_, rfl⟩
      rw [← hT] at htl ⊢
      have hF1 : Hid (formatF m base = if 2147483648 < T then (m, none, 73) else if (beginF m 0 (T + 1) base).2 ≠ 0 then ((beginF m 0 (T + 1) base).1, none, (beginF m 0 (T + 1) base).2)
          else ((beginF m 0 (T + 1) base).1, some ⟨0, base, [], T + 2, sizeN base.size, false⟩, 0)) := Lib.hid (by rw [hF0.out, hdead, ← HN.out, ← hT]; rfl)
      clear hT hdead
      by_cases hTb : 2147483648 < T
      · have g4 : (2147483648 : Int) < (T : Int) := by omega
        have hF : Hid (formatF m base = (m, none, 73)) := Lib.hid (by rw [hF1.out, if_pos hTb])
        go_wp2_with fail
        go_ret2
        rw [hF.out]
        exact ⟨HDR.out, Only.of_below HB.out, rfl⟩
      · have g4 : ¬ (2147483648 : Int) < (T : Int) := by omega
        have hF2 : Hid (formatF m base = if (beginF m 0 (T + 1) base).2 ≠ 0 then ((beginF m 0 (T + 1) base).1, none, (beginF m 0 (T + 1) base).2) else ((beginF m 0 (T + 1) base).1, some ⟨0, base, [], T + 2, sizeN base.size, false⟩, 0)) := Lib.hid (by rw [hF1.out, if_neg hTb])
        obtain ⟨T1, hT1⟩ : ∃ T1, T1 = T + 1 := ⟨_, rfl⟩
        have E1 : Hid ((T : Int) + 1 = (T1 : Int)) := Lib.hid (by omega)
        have E2 : Hid ((T1 : Int) + 1 = ((T + 2 : Nat) : Int)) := Lib.hid (by omega)
        have hT1b : 0 < T1 ∧ T1 ≤ 2147483649 := by omega
        rw [← hT1] at hF2
        obtain ⟨at_, hat⟩ : ∃ a, a = firstF m 0 := ⟨_, rfl⟩
        have hal : at_ ≤ 100000 := by rw [hat]; unfold firstF; omega
        obtain ⟨q, hq⟩ : ∃ q, q = writeF m (at_ : Int) T1 base := ⟨_, rfl⟩
        have hB1 : Hid (beginF m 0 T1 base = if q.2 ≠ 0 then q else writeF q.1 ((0 : Nat) : Int) T1 (headB 0)) := Lib.hid (by unfold beginF; rw [← hat, ← hq])
        have HAT := Lib.hid hat
        have HQ := Lib.hid hq
        clear hTb hT1 hat hq g3 hlt
        go_wp2_with fail
        rw [E1.out]
        refine (rjStart_any rb sb m HZ.out 0 (by omega) _ HDR.out).mono ?_
        rintro e w4 ⟨rfl, hw4⟩
        have hw4 := hw4.symm
        subst hw4
        rw [← HAT.out]
        go_wp2_with fail
        refine (rjWrite_any rb sb m at_ hal T1 hT1b.1 (by omega) base (by omega) _ HDR.out).mono ?_
        rintro e w4 ⟨rfl, hd4, ho4⟩
        rw [← HQ.out] at hd4 ⊢
        have HD4 := Lib.hid hd4
        have HO4 := Lib.hid ((Only.of_below (S := own2 rb sb) HB.out).trans ho4)
        clear hd4 ho4
        obtain ⟨m4, er⟩ := q
        dsimp only at HD4 hB1 ⊢
        by_cases he : er = 0
        · subst he
          obtain ⟨q2, hq2⟩ : ∃ q2, q2 = writeF m4 ((0 : Nat) : Int) T1 (headB 0) := ⟨_, rfl⟩
          have HQ2 := Lib.hid hq2
          have hB2 : Hid (beginF m 0 T1 base = q2) := Lib.hid (by rw [hB1.out, if_neg (by simp), hq2])
          clear hq2
          go_wp2_with fail
          refine (rjHead_any 0 (by omega) _).mono ?_
          rintro e w5 ⟨rfl, hb5⟩
          have HD5 := Lib.hid (HD4.out.grown hb5)
          have HO5 := Lib.hid (HO4.out.trans (Only.of_below hb5))
          clear hb5
          go_wp2_with fail
          refine (rjWrite_any rb sb m4 0 (by omega) T1 hT1b.1 (by omega) (headB 0) (by rw [headB_size]; omega) _ HD5.out).mono ?_
          rintro e w6 ⟨rfl, hd6, ho6⟩
          rw [← HQ2.out] at hd6 ⊢
          have HD6 := Lib.hid hd6
          have HO6 := Lib.hid (HO5.out.trans ho6)
          clear hd6 ho6
          obtain ⟨m6, er2⟩ := q2
          dsimp only at HD6 hB2 ⊢
          by_cases he2 : er2 = 0
          · subst he2
            have hF : Hid (formatF m base = (m6, some ⟨0, base, [], T + 2, sizeN base.size, false⟩, 0)) := Lib.hid (by rw [hF2.out, hB2.out, if_neg (by simp)])
            have hT2b : T + 2 < 4294967296 := by omega
            have hT2 := Lib.hid hT2b
            go_wp2_with fail
            go_ret2
            rw [hF.out]
            have hba : Below w6.heap.size w6 (w6.alloc (.cells #[.pointer (some ⟨rb, 0, none⟩), .string base, .slice none 0 0, .int .u32 ((T1 : Int) + 1), .int .i64 0, .int .i64 (sizeN base.size : Int), .bool false] 83)) := (Below.refl _ w6).alloc (Nat.le_refl _) _
            refine ⟨HD6.out.grown hba, HO6.out.trans (Only.of_below hba), w6.heap.size, rfl, ⟨⟨by show 0 ≤ 1; omega, hT2.out, by show sizeN base.size ≤ 100000; omega, by show 0 ≤ 1000000; omega⟩, ?_, ⟨rfl, .inl ⟨rfl, rfl⟩⟩⟩, HO6.out.size⟩
            have := Blk.new w6 (rjRow rb (.slice none 0 0) ⟨0, base, [], T + 2, sizeN base.size, false⟩) 83
            unfold rjRow at this ⊢
            dsimp only at this ⊢
            rw [← E2.out] at this ⊢
            exact this
          · have g5 : (er2 != 0) = true := by simpa using he2
            have hF : Hid (formatF m base = (m6, none, er2)) := Lib.hid (by rw [hF2.out, hB2.out, if_pos he2])
            go_wp2_with fail
            go_ret2
            rw [hF.out]
            exact ⟨HD6.out, HO6.out, rfl⟩
        · have g5 : (er != 0) = true := by simpa using he
          have hF : Hid (formatF m base = (m4, none, er)) := Lib.hid (by rw [hF2.out, hB1.out, if_pos he, if_pos he])
          go_wp2_with fail
          go_ret2
          rw [hF.out]
          exact ⟨HD4.out, HO4.out, rfl⟩
end Go.Proofs.YtcakellhellddaaGreatDoor
