import Derived.Test.YtnplcjcbojjecaaDoorPkNum
import Derived.Defers
import Derived.Recover
set_option linter.unusedSimpArgs false
set_option linter.unusedVariables false
namespace Go.Proofs.YtnplcjcbojjecaaDoor
open Go.RowKit
theorem u8_up : Tryd.prog.underlying 5 = some (.int .u8) := by kernel_rfl
theorem str_up : Tryd.prog.underlying 9 = some .string := by kernel_rfl
set_option maxHeartbeats 400000 in
/-- The deferred closure of a 'put' that did not panic. -/
theorem putF_idle (bx : Nat) (w : World) :
    CallsD Tryd.prog 106 #[.pointer (some ⟨bx, 0, none⟩)] .returning w fun e u' w' => e = .returned (.tuple #[]) ∧ u' = .returning ∧ w' = w := by
  refine callsD_of_wpS Tryd.func106 rfl fun c₀ cs hu => ?_
  apply wpS_seq
  apply wpS_region
  simp [wpOpsS, go_sem, recoverD, hu, Tryd.ntmps106, Exit.thenS]
  refine wpS_of_wp ?_
  go_wp2
  cases c₀
  simp_all [bodyPostS, results, Tryd.results106]
/-- What a number's writing leaves. -/
def NumPost (pb : Nat) (v0 : Value) (M : List UInt8) (w : World) (e : Ending) (w' : World) : Prop :=
  e = .returned (.tuple #[]) ∧ ∃ v', PkAt w' pb v' M ∧ Only (pkOwn pb v0) w w' ∧ (v'.ownBlock = v0.ownBlock ∨ ∀ k, v'.ownBlock = some k → w.heap.size ≤ k)
theorem NumPost.from {pb : Nat} {v0 : Value} {M : List UInt8} {w w1 w' : World} {e : Ending} (hb : Below w.heap.size w w1) (h : NumPost pb v0 M w1 e w') : NumPost pb v0 M w e w' := by
  obtain ⟨h1, v', h2, h3, h4⟩ := h
  refine ⟨h1, v', h2, (Only.of_below hb).trans h3, ?_⟩
  rcases h4 with h | h
  · exact .inl h
  · exact .inr (fun k hk => Nat.le_trans hb.size (h k hk))
theorem PkAt.grown {w w1 : World} {pb : Nat} {v : Value} {L : List UInt8} (h : PkAt w pb v L) (hb : Below w.heap.size w w1) : PkAt w1 pb v L :=
  ⟨h.blk.below hb h.blk.lt, owns_below h.row hb (Nat.le_refl _)⟩
theorem numF_any (b1 b2 b3 pb : Nat) (v0 : Value) (L : List UInt8) (v n : Nat) (hn : n = 2 ∨ n = 4) (hv : v < 256 ^ n) (hL : L.length ≤ 100000) (w : World) (h : PkAt w pb v0 L)
    (c1 : w.cell? ⟨b1, 0, none⟩ = some (.pointer (some ⟨pb, 0, none⟩))) (c2 : w.cell? ⟨b2, 0, none⟩ = some (.int .u64 v)) (c3 : w.cell? ⟨b3, 0, none⟩ = some (.int .i64 n)) :
    Calls Tryd.prog 91 #[.pointer (some ⟨b1, 0, none⟩), .pointer (some ⟨b2, 0, none⟩), .pointer (some ⟨b3, 0, none⟩)] w (NumPost pb v0 (L ++ leL n v) w) := by
  have H := Lib.hid h
  have HV := Lib.hid hv
  clear h hv
  go_enter Tryd.func91, Tryd.ntmps91
  go_wp2_with fail
  refine (pknum_any pb v0 L v n hn HV.out hL _ H.out).mono ?_
  rintro e w1 ⟨rfl, hp⟩
  go_wp2_with fail
  go_end0
  exact ⟨rfl, hp⟩
theorem owns_lt {w : World} {base : Nat} {e : TypeId} {s : Nat} {v : Value} {n : Nat} {xs : List Value} (h : w.ownsRow base e s v n xs) : ∀ k, v.ownBlock = some k → k < w.heap.size := by
  intro k hk
  rcases h.2 with ⟨rfl, _⟩ | ⟨g, cap, cur, rfl, _, hb, _⟩
  · cases hk
  · simp [Value.ownBlock] at hk; subst hk; exact lt_of_block hb
set_option maxHeartbeats 1000000 in
theorem put_num (b1 b2 b3 pb : Nat) (v0 : Value) (L : List UInt8) (v n : Nat) (hn : n = 2 ∨ n = 4) (hv : v < 256 ^ n) (hL : L.length ≤ 50000) (w : World) (h : PkAt w pb v0 L)
    (c1 : w.cell? ⟨b1, 0, none⟩ = some (.pointer (some ⟨pb, 0, none⟩))) (c2 : w.cell? ⟨b2, 0, none⟩ = some (.int .u64 v)) (c3 : w.cell? ⟨b3, 0, none⟩ = some (.int .i64 n)) :
    Calls Tryd.prog 90 #[.pointer (some ⟨pb, 0, none⟩), .func (.func 91) #[] #[.pointer (some ⟨b1, 0, none⟩), .pointer (some ⟨b2, 0, none⟩), .pointer (some ⟨b3, 0, none⟩)]] w (NumPost pb v0 (L ++ leL n v) w) := by
  have hmf : ∀ (fn : Fn) (first cap : Array Value) (w : World), (Instr.makeFunc fn first cap).run Tryd.prog w = .ok (.func fn first cap) w := fun _ _ _ _ => rfl
  have H := Lib.hid h
  have HV := Lib.hid hv
  have e1 : w.cell? ⟨pb, 1, none⟩ = some (.int .i64 0) := h.blk.cell 1
  have l1 := World.block_lt_of_cell? w _ c1
  have l2 := World.block_lt_of_cell? w _ c2
  have l3 := World.block_lt_of_cell? w _ c3
  have lp := h.blk.lt
  clear h hv
  go_enter_defers Tryd.func90, Tryd.ntmps90
  go_wp2_with fail
  have HA : Hid (PkAt (w.alloc (.cells #[.pointer (some ⟨pb, 0, none⟩)] 104)) pb v0 L) := Lib.hid ⟨H.out.blk.alloc _, owns_below (B := w.heap.size) H.out.row ((Below.refl _ _).alloc (Nat.le_refl _) _) (Nat.le_refl _)⟩
  have hbx := Blk.new w #[.pointer (some ⟨pb, 0, none⟩)] 104
  have d1 : (w.alloc (.cells #[.pointer (some ⟨pb, 0, none⟩)] 104)).cell? ⟨b1, 0, none⟩ = some (.pointer (some ⟨pb, 0, none⟩)) := (World.cell?_alloc_lt _ _ _ l1).trans c1
  have d2 : (w.alloc (.cells #[.pointer (some ⟨pb, 0, none⟩)] 104)).cell? ⟨b2, 0, none⟩ = some (.int .u64 v) := (World.cell?_alloc_lt _ _ _ l2).trans c2
  have d3 : (w.alloc (.cells #[.pointer (some ⟨pb, 0, none⟩)] 104)).cell? ⟨b3, 0, none⟩ = some (.int .i64 n) := (World.cell?_alloc_lt _ _ _ l3).trans c3
  refine (numF_any b1 b2 b3 pb v0 L v n hn HV.out (by omega) _ HA.out d1 d2 d3).mono ?_
  rintro e w1 ⟨rfl, v', hP1, hO1, hB1⟩
  have hne : ¬ pkOwn pb v0 w.heap.size := by
    rintro (h | h)
    · omega
    · have := owns_lt H.out.row _ h; omega
  have hb1 := hO1.blk hbx hne
  have k0 : w1.cell? ⟨w.heap.size, 0, none⟩ = some (.pointer (some ⟨pb, 0, none⟩)) := hb1.cell 0
  obtain ⟨M, hM⟩ : ∃ M, M = L ++ leL n v := ⟨_, rfl⟩
  have hlen : M.length = L.length + n := by rw [hM, List.length_append, leL_len]
  rw [← hM] at hP1 ⊢
  obtain ⟨g, cap, rfl, hg1, hg2⟩ := hP1.row.form (by omega)
  have k1 : w1.cell? ⟨pb, 0, none⟩ = some (.slice (some ⟨g, 0, none⟩) M.length cap) := hP1.blk.cell 0
  have hl6 : M.length ≤ 60000 := by omega
  have fin : NumPost pb v0 M w (.returned (.tuple #[])) w1 := by
    refine ⟨rfl, _, hP1, ((Only.refl _ _).alloc _).trans hO1, ?_⟩
    rcases hB1 with h | h
    · exact .inl h
    · exact .inr (fun k hk => by have := h k hk; simp at this; omega)
  rw [hM] at fin
  have FIN := Lib.hid fin
  clear fin hP1 hO1 hB1 HA hbx d1 d2 d3 hne hb1 hM hlen
  go_wp2_with fail
  refine leaves_cons (f := 106) (args := #[.pointer (some ⟨w.heap.size, 0, none⟩)]) (by simp) (by simp [go_sem]) ?_
  refine (putF_idle _ _).mono ?_
  rintro e u' w'' ⟨rfl, rfl, rfl⟩
  simp [Leaves, settle, results, Tryd.results90, go_sem]
  exact FIN.out
set_option maxHeartbeats 400000 in
/-- (*Packer).Num. -/
theorem num_any (pb : Nat) (v0 : Value) (L : List UInt8) (v n : Nat) (hn : n = 2 ∨ n = 4) (hv : v < 256 ^ n) (hL : L.length ≤ 50000) (w : World) (h : PkAt w pb v0 L) :
    Calls Tryd.prog 65 #[.pointer (some ⟨pb, 0, none⟩), .int .u64 v, .int .i64 n] w (NumPost pb v0 (L ++ leL n v) w) := by
  have hmf : ∀ (fn : Fn) (first cap : Array Value) (w : World), (Instr.makeFunc fn first cap).run Tryd.prog w = .ok (.func fn first cap) w := fun _ _ _ _ => rfl
  have H := Lib.hid h
  have HV := Lib.hid hv
  clear h hv
  go_enter Tryd.func65, Tryd.ntmps65
  go_wp2_with fail
  have hb1 : Below w.heap.size w (((w.alloc (.cells #[.pointer (some ⟨pb, 0, none⟩)] 104)).alloc (.cells #[.int .u64 v] 71)).alloc (.cells #[.int .i64 n] 3)) :=
    (((Below.refl _ _).alloc (Nat.le_refl _) _).alloc (by simp) _).alloc (by simp; omega) _
  have c1 := (((Blk.new w #[.pointer (some ⟨pb, 0, none⟩)] 104).alloc (.cells #[.int .u64 v] 71)).alloc (.cells #[.int .i64 n] 3)).cell 0
  have c2 := ((Blk.new' (w.alloc (.cells #[.pointer (some ⟨pb, 0, none⟩)] 104)) #[.int .u64 v] 71 (n := w.heap.size + 1) (by simp)).alloc (.cells #[.int .i64 n] 3)).cell 0
  have c3 := (Blk.new' ((w.alloc (.cells #[.pointer (some ⟨pb, 0, none⟩)] 104)).alloc (.cells #[.int .u64 v] 71)) #[.int .i64 n] 3 (n := w.heap.size + 1 + 1) (by simp)).cell 0
  refine (put_num w.heap.size (w.heap.size + 1) (w.heap.size + 1 + 1) pb v0 L v n hn HV.out hL _ (H.out.grown hb1) c1 c2 c3).mono ?_
  rintro e w1 hp
  have hp' := hp.from hb1
  obtain ⟨rfl, hp2⟩ := hp'
  clear hp c1 c2 c3 hb1
  go_wp2_with fail
  go_end0
  exact ⟨rfl, hp2⟩
/-- (*Packer).Done. -/
theorem done_any (pb : Nat) (v0 : Value) (L : List UInt8) (hL : 0 < L.length) (w : World) (h : PkAt w pb v0 L) :
    Calls Tryd.prog 66 #[.pointer (some ⟨pb, 0, none⟩)] w fun e w' => e = .returned (.tuple #[.string ⟨L.toArray⟩, .int .i64 0]) ∧ w' = w := by
  obtain ⟨g, cap, rfl, hg1, hg2⟩ := h.row.form hL
  have e0 : w.cell? ⟨pb, 0, none⟩ = some (.slice (some ⟨g, 0, none⟩) L.length cap) := h.blk.cell 0
  have e1 : w.cell? ⟨pb, 1, none⟩ = some (.int .i64 0) := h.blk.cell 1
  have hc : Hid (∀ j (hj : j < L.length), w.cell? ⟨g, 0 + j, none⟩ = some (.int .u8 (L[j].toNat : Int))) := by
    refine Lib.hid (fun j hj => ?_)
    rcases h.row.2 with ⟨h0, _⟩ | ⟨g', cap', cur, h1, h2, h3, h4, h5, h6, h7⟩
    · cases h0
    · cases h1
      rw [Nat.zero_add]
      have e := congrArg (fun l : List Value => l[j]?) h7
      simp [hj, List.getElem?_take] at e
      have : w.cell? ⟨g, j, none⟩ = cur[j]? := by simp [World.cell?, h3]
      rw [this, e]
      rfl
  clear h
  go_enter Tryd.func66, Tryd.ntmps66
  go_wp2_with (first | ((with_reducible refine at_toStr sl_u8p u8_up str_up g 0 cap L L.length ?_ ?_ ?_ ?_); exact rfl; exact rfl; exact hc.out))
  go_ret2
  exact ⟨rfl, rfl⟩
end Go.Proofs.YtnplcjcbojjecaaDoor
