import Derived.Test.YtnplcjcbojjecaaDoorPkOpen
set_option linter.unusedSimpArgs false
set_option linter.unusedVariables false
namespace Go.Proofs.YtnplcjcbojjecaaDoor
open Go.RowKit
set_option maxHeartbeats 400000 in
theorem getF_idle (bx : Nat) (w : World) :
    CallsD Tryd.prog 97 #[.pointer (some ⟨bx, 0, none⟩)] .returning w fun e u' w' => e = .returned (.tuple #[]) ∧ u' = .returning ∧ w' = w := by
  refine callsD_of_wpS Tryd.func97 rfl fun c₀ cs hu => ?_
  apply wpS_seq
  apply wpS_region
  simp [wpOpsS, go_sem, recoverD, hu, Tryd.ntmps97, Exit.thenS]
  refine wpS_of_wp ?_
  go_wp2
  cases c₀
  simp_all [bodyPostS, results, Tryd.results97]
/-- What the taking of a number leaves: it lies in block b3. -/
def TakPost (ob b3 : Nat) (r : Nat) (w : World) (e : Ending) (w' : World) : Prop :=
  e = .returned (.tuple #[]) ∧ Only (fun k => k = ob ∨ k = b3) w w' ∧ w'.cell? ⟨b3, 0, none⟩ = some (.int .u64 r)
theorem onumF_any (b1 b2 b3 ob n : Nat) (hn : n = 2 ∨ n = 4) (s : ByteArray) (w : World) (h : OpAt w ob s) (hs : n ≤ s.size) (hs2 : s.size ≤ maxLen) (hne : b3 ≠ ob)
    (c1 : w.cell? ⟨b1, 0, none⟩ = some (.pointer (some ⟨ob, 0, none⟩))) (c2 : w.cell? ⟨b2, 0, none⟩ = some (.int .i64 n)) (c3 : Blk w b3 #[.int .u64 0] 71) :
    Calls Tryd.prog 74 #[.pointer (some ⟨b1, 0, none⟩), .pointer (some ⟨b2, 0, none⟩), .pointer (some ⟨b3, 0, none⟩)] w (TakPost ob b3 (Lib.leNat (s.data.toList.take n)) w) := by
  have H := Lib.hid h
  have H3 := Lib.hid c3
  obtain ⟨r, hr⟩ : ∃ r, r = Lib.leNat (s.data.toList.take n) := ⟨_, rfl⟩
  rw [← hr]
  have HR := Lib.hid hr
  clear h c3 hr
  go_enter Tryd.func74, Tryd.ntmps74
  go_wp2_with fail
  refine (onum_any ob n hn s _ H.out hs hs2).mono ?_
  rw [← HR.out]
  rintro e w1 ⟨rfl, hO⟩
  have hb3 := hO.blk H3.out hne
  have d3 : w1.cell? ⟨b3, 0, none⟩ = some (.int .u64 0) := hb3.cell 0
  have f3 := hb3.free 0
  have HO := Lib.hid hO
  have HB := Lib.hid hb3
  clear hO hb3
  go_wp2_with fail
  go_end0
  refine ⟨rfl, (HO.out.mono (fun _ _ h => .inl h)).setCell (fun _ => .inr rfl) _, ?_⟩
  exact (HB.out.setCell 0 _).cell 0
set_option maxHeartbeats 1000000 in
theorem get_num (b1 b2 b3 ob n : Nat) (hn : n = 2 ∨ n = 4) (s : ByteArray) (w : World) (h : OpAt w ob s) (hs : n ≤ s.size) (hs2 : s.size ≤ maxLen) (hne : b3 ≠ ob)
    (c1 : w.cell? ⟨b1, 0, none⟩ = some (.pointer (some ⟨ob, 0, none⟩))) (c2 : w.cell? ⟨b2, 0, none⟩ = some (.int .i64 n)) (c3 : Blk w b3 #[.int .u64 0] 71) :
    Calls Tryd.prog 73 #[.pointer (some ⟨ob, 0, none⟩), .func (.func 74) #[] #[.pointer (some ⟨b1, 0, none⟩), .pointer (some ⟨b2, 0, none⟩), .pointer (some ⟨b3, 0, none⟩)]] w (TakPost ob b3 (Lib.leNat (s.data.toList.take n)) w) := by
  have hmf : ∀ (fn : Fn) (first cap : Array Value) (w : World), (Instr.makeFunc fn first cap).run Tryd.prog w = .ok (.func fn first cap) w := fun _ _ _ _ => rfl
  have e1 : w.cell? ⟨ob, 1, none⟩ = some (.bool false) := Blk.cell h 1
  have l1 := World.block_lt_of_cell? w _ c1
  have l2 := World.block_lt_of_cell? w _ c2
  have l3 := c3.lt
  have lo := Blk.lt h
  have H := Lib.hid h
  have H3 := Lib.hid c3
  clear h c3
  go_enter_defers Tryd.func73, Tryd.ntmps73
  go_wp2_with fail
  have HA : Hid (OpAt (w.alloc (.cells #[.pointer (some ⟨ob, 0, none⟩)] 75)) ob s) := Lib.hid (Blk.alloc H.out _)
  have d1 : (w.alloc (.cells #[.pointer (some ⟨ob, 0, none⟩)] 75)).cell? ⟨b1, 0, none⟩ = some (.pointer (some ⟨ob, 0, none⟩)) := (World.cell?_alloc_lt _ _ _ l1).trans c1
  have d2 : (w.alloc (.cells #[.pointer (some ⟨ob, 0, none⟩)] 75)).cell? ⟨b2, 0, none⟩ = some (.int .i64 n) := (World.cell?_alloc_lt _ _ _ l2).trans c2
  refine (onumF_any b1 b2 b3 ob n hn s _ HA.out hs hs2 hne d1 d2 (H3.out.alloc _)).mono ?_
  rintro e w1 ⟨rfl, hO, hc⟩
  have FIN : Hid (TakPost ob b3 (Lib.leNat (s.data.toList.take n)) w (.returned (.tuple #[])) w1) := Lib.hid ⟨rfl, ((Only.refl _ _).alloc _).trans hO, hc⟩
  clear hO hc HA d1 d2
  go_wp2_with fail
  refine leaves_cons (f := 97) (args := #[.pointer (some ⟨w.heap.size, 0, none⟩)]) (by simp) (by simp [go_sem]) ?_
  refine (getF_idle _ _).mono ?_
  rintro e u' w'' ⟨rfl, rfl, rfl⟩
  simp only [Leaves, settle]
  refine ⟨.tuple #[], ?_, FIN.out⟩
  simp [results, Tryd.results73, go_sem]
set_option maxHeartbeats 1000000 in
/-- (*Opener).Num. -/
theorem Onum_any (ob n : Nat) (hn : n = 2 ∨ n = 4) (s : ByteArray) (w : World) (h : OpAt w ob s) (hs : n ≤ s.size) (hs2 : s.size ≤ maxLen) :
    Calls Tryd.prog 47 #[.pointer (some ⟨ob, 0, none⟩), .int .i64 n] w fun e w' => e = .returned (.int .u64 (Lib.leNat (s.data.toList.take n))) ∧ Only (· = ob) w w' := by
  have hmf : ∀ (fn : Fn) (first cap : Array Value) (w : World), (Instr.makeFunc fn first cap).run Tryd.prog w = .ok (.func fn first cap) w := fun _ _ _ _ => rfl
  have lo := Blk.lt h
  have H := Lib.hid h
  clear h
  go_enter Tryd.func47, Tryd.ntmps47
  go_wp2_with fail
  have hb1 : Below w.heap.size w (((w.alloc (.cells #[.pointer (some ⟨ob, 0, none⟩)] 75)).alloc (.cells #[.int .i64 n] 3)).alloc (.cells #[.int .u64 0] 71)) :=
    (((Below.refl _ _).alloc (Nat.le_refl _) _).alloc (by simp) _).alloc (by simp; omega) _
  have c1 := (((Blk.new w #[.pointer (some ⟨ob, 0, none⟩)] 75).alloc (.cells #[.int .i64 n] 3)).alloc (.cells #[.int .u64 0] 71)).cell 0
  have c2 := ((Blk.new' (w.alloc (.cells #[.pointer (some ⟨ob, 0, none⟩)] 75)) #[.int .i64 n] 3 (n := w.heap.size + 1) (by simp)).alloc (.cells #[.int .u64 0] 71)).cell 0
  have c3 := (Blk.new' ((w.alloc (.cells #[.pointer (some ⟨ob, 0, none⟩)] 75)).alloc (.cells #[.int .i64 n] 3)) #[.int .u64 0] 71 (n := w.heap.size + 1 + 1) (by simp))
  refine (get_num w.heap.size (w.heap.size + 1) (w.heap.size + 1 + 1) ob n hn s _ (Blk.below H.out hb1 lo) hs hs2 (by omega) c1 c2 c3).mono ?_
  rintro e w1 ⟨rfl, hO, hcell⟩
  have HO : Hid (Only (· = ob) w w1) := Lib.hid ⟨hO.os.trans hb1.os, hO.tape.trans hb1.tape, hO.output.trans hb1.output, Nat.le_trans hb1.size hO.size, fun k hk hs => (hO.block k (Nat.lt_of_lt_of_le hk hb1.size) (by rintro (h | h); exact hs h; omega)).trans (hb1.block k hk)⟩
  obtain ⟨r, hr⟩ : ∃ r, r = Lib.leNat (s.data.toList.take n) := ⟨_, rfl⟩
  rw [← hr] at hcell
  have HR := Lib.hid hr
  clear hO c1 c2 c3 hb1 hr
  go_wp2_with fail
  go_ret
  exact ⟨by rw [← HR.out]; rfl, HO.out⟩
theorem open_any (s : ByteArray) (w : World) :
    Calls Tryd.prog 46 #[.string s] w fun e w' => e = .returned (.pointer (some ⟨w.heap.size, 0, none⟩)) ∧ w' = w.alloc (.cells #[.string s, .bool false] 116) := by
  go_enter Tryd.func46, Tryd.ntmps46
  go_wp2
  go_ret
  exact ⟨rfl, rfl⟩
/-- The number that a text begins with. -/
def numF (k : Nat) (s : ByteArray) : Nat := Lib.leNat (s.data.toList.take k)
theorem numF_lt (k : Nat) (s : ByteArray) : numF k s < 256 ^ k := by
  unfold numF
  have h := leNat_lt (s.data.toList.take k)
  refine Nat.lt_of_lt_of_le h (Nat.pow_le_pow_right (by decide) ?_)
  rw [List.length_take]; omega
theorem number_any (s : ByteArray) (hs : 4 ≤ s.size) (hs2 : s.size ≤ maxLen) (w : World) :
    Calls Tryd.prog 50 #[.string s] w fun e w' => e = .returned (.int .u32 (numF 4 s)) ∧ Below w.heap.size w w' := by
  go_enter Tryd.func50, Tryd.ntmps50
  go_wp2_with fail
  refine (open_any s _).mono ?_
  rintro e w1 ⟨rfl, rfl⟩
  go_wp2_with fail
  refine (Onum_any w.heap.size 4 (.inr rfl) s _ (Blk.new _ _ _) hs hs2).mono ?_
  rintro e w1 ⟨rfl, hO⟩
  have HB : Hid (Below w.heap.size w w1) := Lib.hid (((Below.refl _ _).alloc (Nat.le_refl _) _).trans (hO.below (by simp) (fun k hk h => by omega)))
  have hlt : numF 4 s < 4294967296 := numF_lt 4 s
  have he : Lib.leNat (s.data.toList.take 4) = numF 4 s := rfl
  rw [he]
  obtain ⟨r, hr⟩ : ∃ r, r = numF 4 s := ⟨_, rfl⟩
  rw [← hr] at hlt ⊢
  have HR := Lib.hid hr
  clear he hO hr
  go_wp2_with fail
  go_ret
  exact ⟨by rw [← HR.out]; rfl, HB.out⟩
end Go.Proofs.YtnplcjcbojjecaaDoor
