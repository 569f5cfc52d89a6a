import Derived.Test.YtcakellhellddaaGreatDoorBack
import Derived.Test.YtcakellhellddaaGreatDoorJoFns
import Derived.Test.YtcakellhellddaaGreatDoorFrStrs
set_option linter.unusedSimpArgs false
set_option linter.unusedVariables false
namespace Go.Proofs.YtcakellhellddaaGreatDoor
open Go.RowKit Go.Shelf
attribute [local go_sem] Oper.semAt_some
theorem Only.of_grownBy {S : Nat → Prop} {W W' : World} {row : Option Nat} (h : W.grownBy W' row) (hr : ∀ k, row = some k → S k) : Only S W W' :=
  ⟨h.os, h.tape, h.output, h.size, fun k hk hs => h.block k hk (fun e => hs (hr k e.symm))⟩
/-- Sectors written one behind the other, up to the first error. -/
def wrL (m : DM) (at_ : Int) : List BackX → DM × Int
  | [] => (m, 0)
  | x :: xs => if (m.write (at_ + x.1.1) x.1.2).2 ≠ 0 then m.write (at_ + x.1.1) x.1.2 else wrL (m.write (at_ + x.1.1) x.1.2).1 at_ xs
theorem wrL_snoc (at_ : Int) (x : BackX) : ∀ (xs : List BackX) (m m' : DM), wrL m at_ xs = (m', 0) → wrL m at_ (xs ++ [x]) = m'.write (at_ + x.1.1) x.1.2
  | [], m, m', h => by
    have h : (m, (0 : Int)) = (m', 0) := h
    injection h with h _
    subst h
    show (if _ then _ else _) = _
    by_cases hc : (m.write (at_ + x.1.1) x.1.2).2 ≠ 0
    · rw [if_pos hc]
    · rw [if_neg hc]
      have : (m.write (at_ + x.1.1) x.1.2).2 = 0 := by simpa using hc
      show ((m.write (at_ + x.1.1) x.1.2).1, (0 : Int)) = _
      rw [← this]
  | y :: xs, m, m', h => by
    have h : (if (m.write (at_ + y.1.1) y.1.2).2 ≠ 0 then m.write (at_ + y.1.1) y.1.2 else wrL (m.write (at_ + y.1.1) y.1.2).1 at_ xs) = (m', 0) := h
    show (if (m.write (at_ + y.1.1) y.1.2).2 ≠ 0 then m.write (at_ + y.1.1) y.1.2 else wrL (m.write (at_ + y.1.1) y.1.2).1 at_ (xs ++ [x])) = _
    by_cases hc : (m.write (at_ + y.1.1) y.1.2).2 ≠ 0
    · rw [if_pos hc] at h
      rw [h] at hc; exact absurd rfl hc
    · rw [if_neg hc] at h ⊢
      exact wrL_snoc at_ x xs _ _ h
theorem wrL_err (at_ : Int) : ∀ (xs ys : List BackX) (m m' : DM) (e : Int), wrL m at_ xs = (m', e) → e ≠ 0 → wrL m at_ (xs ++ ys) = (m', e)
  | [], ys, m, m', e, h, he => by
    have h : (m, (0 : Int)) = (m', e) := h
    injection h with _ h
    exact absurd h.symm he
  | x :: xs, ys, m, m', e, h, he => by
    have h : (if (m.write (at_ + x.1.1) x.1.2).2 ≠ 0 then m.write (at_ + x.1.1) x.1.2 else wrL (m.write (at_ + x.1.1) x.1.2).1 at_ xs) = (m', e) := h
    show (if (m.write (at_ + x.1.1) x.1.2).2 ≠ 0 then m.write (at_ + x.1.1) x.1.2 else wrL (m.write (at_ + x.1.1) x.1.2).1 at_ (xs ++ ys)) = (m', e)
    by_cases hc : (m.write (at_ + x.1.1) x.1.2).2 ≠ 0
    · rw [if_pos hc] at h ⊢; exact h
    · rw [if_neg hc] at h ⊢
      exact wrL_err at_ xs ys _ _ _ h he
theorem wrF_wrL (m : DM) (at_ : Int) (l : List ByteArray) (hok : BackOk l) : wrF m at_ l l.length = wrL m at_ (backL l hok l.length) := by
  have key : ∀ (n : Nat) (m : DM), n ≤ l.length → wrF m at_ l n = wrL m at_ ((List.range' (l.length - n) n).map (backX l hok)) := by
    intro n
    induction n with
    | zero => intro m _; rfl
    | succ n ih =>
      intro m hn
      rw [List.range'_succ, List.map_cons, show l.length - (n + 1) + 1 = l.length - n by omega]
      have e1 : (backX l hok (l.length - (n + 1))).1.1 = n := by show l.length - 1 - (l.length - (n + 1)) = n; omega
      have e2 : (backX l hok (l.length - (n + 1))).1.2 = l.getD n ByteArray.empty := by
        show l.getD (l.length - 1 - (l.length - (n + 1))) ByteArray.empty = _
        rw [show l.length - 1 - (l.length - (n + 1)) = n by omega]
      show (if _ then _ else _) = (if (m.write (at_ + (backX l hok (l.length - (n + 1))).1.1) (backX l hok (l.length - (n + 1))).1.2).2 ≠ 0 then _ else _)
      rw [e1, e2, ih _ (by omega)]
  rw [key l.length m (Nat.le_refl _), Nat.sub_self, backL, List.range_eq_range']
theorem wrL_prefix (m : DM) (at_ : Int) (l : List ByteArray) (hok : BackOk l) (k : Nat) (hk : k ≤ l.length) (m' : DM) (e : Int) (h : wrL m at_ (backL l hok k) = (m', e)) (he : e ≠ 0) : wrL m at_ (backL l hok l.length) = (m', e) := by
  have hsplit : backL l hok l.length = backL l hok k ++ (List.range' k (l.length - k)).map (backX l hok) := by
    unfold backL
    rw [← List.map_append]
    congr 1
    rw [List.range_eq_range', List.range_eq_range']
    have := @List.range'_append 0 k (l.length - k) 1
    simp at this
    rw [this, Nat.add_sub_cancel' hk]
  rw [hsplit]
  exact wrL_err at_ _ _ m m' e h he
theorem results_cell_one {P : Program} {fn : Func} {p : Tmp} {ty : TypeId} {k : IntKind} (h : fn.results = #[.cell p ty]) (tmps : Array Value) (w : World) (g : Nat) (v : Value)
    (hp : tmps.getD p undef = .pointer (some ⟨g, 0, none⟩)) (hc : w.cell? ⟨g, 0, none⟩ = some v) (hu : P.underlying ty = some (.int k)) : (results fn tmps).run P w = .ok v w := by
  have hp' : tmps[p]?.getD undef = .pointer (some ⟨g, 0, none⟩) := by simpa using hp
  simp [results, h, hp', asAddr, loadVar, isAgg, run_underlying hu, Sem.run_bind, hc]
theorem errno_u : Tryz.prog.underlying 26 = some (.int .i64) := by kernel_rfl
/-- The blocks that such a loop may turn. -/
def loopOwn (b mb a2 B : Nat) : Nat → Prop := fun k => k = b ∨ k = mb ∨ k = a2 ∨ B ≤ k
/-- Between two rounds. -/
def LoopI (m : DM) (at_ : Int) (b mb a2 : Nat) (w2 : World) (pre : List BackX) (W : World) : Prop :=
  ∃ m', wrL m at_ pre = (m', 0) ∧ DiskAt W b mb m' ∧ Only (loopOwn b mb a2 w2.heap.size) w2 W ∧ Blk W a2 #[.int .i64 0] 26
/-- Where a write failed. -/
def LoopX (m : DM) (at_ : Int) (b mb a2 : Nat) (w2 : World) (cd : Code) (pre : List BackX) (W : World) : Prop :=
  cd = .ret ∧ ∃ m' e, wrL m at_ pre = (m', e) ∧ e ≠ 0 ∧ DiskAt W b mb m' ∧ Only (loopOwn b mb a2 w2.heap.size) w2 W ∧ W.cell? ⟨a2, 0, none⟩ = some (.int .i64 e) ∧ a2 < W.heap.size
theorem loopI_own {m : DM} {at_ : Int} {b mb a2 : Nat} {w2 : World} (hb : b < w2.heap.size) (hm : mb < w2.heap.size) (ha : a2 < w2.heap.size) : OwnFrom w2.heap.size (LoopI m at_ b mb a2 w2) := by
  rintro pre W W' row ⟨m', h1, h2, h3, h4⟩ hg hr
  have ho : Only (fun k => row = some k) W W' := Only.of_grownBy hg (fun k hk => hk)
  have hn : ∀ k, k < w2.heap.size → ¬ row = some k := fun k hk e => by have := (hr k e).1; omega
  exact ⟨m', h1, h2.only ho (hn b hb) (hn mb hm), h3.trans (ho.mono (fun k _ hk => .inr (.inr (.inr (hr k hk).1)))), ho.blk h4 (hn a2 ha)⟩
theorem loopX_own {m : DM} {at_ : Int} {b mb a2 : Nat} {w2 : World} (hb : b < w2.heap.size) (hm : mb < w2.heap.size) (ha : a2 < w2.heap.size) (cd : Code) : OwnFrom w2.heap.size (LoopX m at_ b mb a2 w2 cd) := by
  rintro pre W W' row ⟨hc, m', e, h1, h2, h3, h4, h5, h6⟩ hg hr
  have ho : Only (fun k => row = some k) W W' := Only.of_grownBy hg (fun k hk => hk)
  have hn : ∀ k, k < w2.heap.size → ¬ row = some k := fun k hk e => by have := (hr k e).1; omega
  exact ⟨hc, m', e, h1, h2, h3.only ho (hn b hb) (hn mb hm), h4.trans (ho.mono (fun k _ hk => .inr (.inr (.inr (hr k hk).1)))), (ho.cell (p := ⟨a2, 0, none⟩) h6 (hn a2 ha)).trans h5, Nat.lt_of_lt_of_le h6 ho.size⟩
theorem loop_only {b mb a2 : Nat} {w w2 W : World} (h : Below w.heap.size w w2) (ha : w.heap.size ≤ a2) (ho : Only (loopOwn b mb a2 w2.heap.size) w2 W) : Only (own2 b mb) w W :=
  ⟨ho.os.trans h.os, ho.tape.trans h.tape, ho.output.trans h.output, Nat.le_trans h.size ho.size, fun k hk hn => by
    have hs := h.size
    refine (ho.block k (by omega) (fun hh => ?_)).trans (h.block k hk)
    rcases hh with e | e | e | e
    · exact hn (.inl e)
    · exact hn (.inr e)
    · omega
    · omega⟩
set_option maxRecDepth 100000 in
set_option maxHeartbeats 1000000 in
theorem jwrite_any (b mb : Nat) (m : DM) (at_ : Int) (hat : 0 ≤ at_ ∧ at_ ≤ 100000) (num : Nat) (hn : num < 4294967296) (s : ByteArray) (w : World) (h : DiskAt w b mb m) :
    Calls Tryz.prog 49 #[.pointer (some ⟨b, 0, none⟩), .int .i64 at_, .int .u32 num, .string s] w fun e w' => e = .returned (.int .i64 (writeF m at_ num s).2) ∧ DiskAt w' b mb (writeF m at_ num s).1 ∧ Only (own2 b mb) w w' := by
  have HD := Lib.hid h
  obtain ⟨lb, lmb⟩ := h.lt
  clear h
  refine (callsIn_wide (n := 5)).1 ?_
  refine callsIn_of_wp_marks Tryz.func49 rfl trivial ?_ rfl
  simp only [Tryz.ntmps49, List.size_toArray, List.length_cons, List.length_nil, Nat.reduceAdd, Nat.reduceSub, Array.replicate_succ, Array.replicate_zero, List.push_toArray, List.append_toArray, List.nil_append, List.cons_append]
  gi_wp2_with fail
  try simp only [World.size_alloc]
  obtain ⟨a2, ha2⟩ : ∃ a2, a2 = w.heap.size + 1 + 1 := ⟨_, rfl⟩
  simp only [← ha2]
  obtain ⟨a1, ha1⟩ : ∃ a1, a1 = w.heap.size + 1 := ⟨_, rfl⟩
  simp only [← ha1]
  generalize hw0 : ((w.alloc _).alloc _).alloc _ = w0
  have cA : w0.cell? ⟨w.heap.size, 0, none⟩ = some (.pointer (some ⟨b, 0, none⟩)) := by rw [← hw0]; exact ((((Blk.new w _ _).alloc _).alloc _)).cell 0
  have cB : w0.cell? ⟨a1, 0, none⟩ = some (.int .i64 at_) := by rw [← hw0, ha1]; exact ((Blk.new' (w.alloc _) _ _ (by simp)).alloc _).cell 0
  have bC : Blk w0 a2 #[.int .i64 0] 26 := by rw [← hw0, ha2]; exact Blk.new' ((w.alloc _).alloc _) _ _ (by simp)
  have hb0 : Below w.heap.size w w0 := by rw [← hw0]; exact ((((Below.refl _ w).alloc (Nat.le_refl _) _).alloc (by simp) _).alloc (by simp; omega) _)
  have hs0 : w0.heap.size = w.heap.size + 3 := by rw [← hw0]; simp
  clear hw0
  have HB0 := Lib.hid hb0
  have HA1 := Lib.hid ha1
  have HA2 := Lib.hid ha2
  clear ha1 ha2
  have HBC := Lib.hid bC
  clear hb0 bC
  by_cases hbad : num = 0 ∨ 60000 < s.size
  · refine ⟨trivial, ?_⟩
    refine (callsIn_wide.2 (frMake_bad num s w0 hbad)).mono ?_
    rintro e w1 ⟨rfl, hw1⟩
    have hw1 := hw1.symm
    subst hw1
    have g1 : ((makeF num s).2 != 0) = true := by
      unfold makeF
      by_cases h0 : num = 0
      · rw [if_pos h0]; rfl
      · rw [if_neg h0, if_pos (by omega)]; rfl
    have cC := HBC.out.cell 0
    have fC := HBC.out.free 0
    obtain ⟨er, her⟩ : ∃ er, er = (makeF num s).2 := ⟨_, rfl⟩
    rw [← her] at g1 ⊢
    have HER := Lib.hid her
    clear hbad her
    simp only [List.getElem?_toArray, List.getElem?_cons_zero] at cC
    gi_wp2_with fail
    have hcc : (w0.setCell ⟨a2, 0, none⟩ (.int .i64 er)).cell? ⟨a2, 0, none⟩ = some (.int .i64 er) := (HBC.out.setCell 0 (.int .i64 er)).cell 0
    have hoo : Only (own2 b mb) w (w0.setCell ⟨a2, 0, none⟩ (.int .i64 er)) := (Only.of_below HB0.out).setCell (p := ⟨a2, 0, none⟩) (fun h => by
      have h : a2 < w.heap.size := h
      rw [HA2.out] at h; omega) _
    have hwf : writeF m at_ num s = (m, er) := by
      unfold writeF
      rw [← HER.out, if_pos (by simpa using g1)]
    refine ⟨_, results_cell_one rfl _ _ a2 _ rfl hcc errno_u, ?_⟩
    rw [hwf]
    refine ⟨rfl, ?_, hoo⟩
    exact (HD.out.only (Only.of_below (S := fun _ => False) HB0.out) (fun h => h) (fun h => h)).only ((Only.refl (fun k => k = a2) w0).setCell (p := ⟨a2, 0, none⟩) (fun _ => rfl) _) (by rw [HA2.out]; omega) (by rw [HA2.out]; omega)
  · refine ⟨trivial, ?_⟩
    refine (callsIn_wide.2 (frMake_any num s w0 (by omega) hn (by omega))).mono ?_
    rintro e w1 ⟨v, rfl, hb1, ho1⟩
    have hs6 : s.size ≤ 60000 := by omega
    have h0 : 0 < num := by omega
    obtain ⟨l, hl⟩ : ∃ l, l = secsF num s := ⟨_, rfl⟩
    have hll : l.length = sizeN s.size := by rw [hl, secsF_len]
    have hk9 := sizeN_le hs6
    rw [← hl] at ho1
    have hst : StrsAt w1 v l := StrsAt.own ho1 hll.symm (by omega)
    have hbl := owns_block ho1
    have hlx : ∀ x ∈ l, x.size = 256 := fun x hx => by
      rw [hl] at hx
      unfold secsF at hx
      obtain ⟨q, hq, rfl⟩ := List.mem_map.1 hx
      exact secF_size _ _ _ _ (allF_size s) (List.mem_range.1 hq)
    have hok : BackOk l := ⟨by omega, fun q => by
      by_cases hq : q < l.length
      · rw [List.getD_eq_getElem?_getD, List.getElem?_eq_getElem hq]
        show (l[q]).size ≤ maxLen
        rw [hlx _ (List.getElem_mem hq)]; simp [maxLen]
      · rw [List.getD_eq_getElem?_getD, List.getElem?_eq_none (by omega)]; decide⟩
    have hb12 : Below w0.heap.size w0 w1 := hb1
    obtain ⟨ad, c, hv, _, _⟩ := hst.out
    have HST := Lib.hid hst
    have HBL := Lib.hid hbl
    have HB1 := Lib.hid hb12
    have HLL := Lib.hid hll
    have HL := Lib.hid hl
    have HBAD := Lib.hid hbad
    clear ho1 hst hbl hb1 hb12 hll hl hlx hk9
    subst hv
    gi_wp2_with fail
    refine ⟨trivial, ?_⟩
    refine (callsIn_wide.2 (back_any ad l.length c w1)).mono ?_
    rintro e w2 ⟨rfl, hw2⟩
    have cS : w2.cell? ⟨w1.heap.size, 0, none⟩ = some (.slice ad l.length c) := by rw [hw2]; exact (Blk.new w1 _ _).cell 0
    have hb2 : Below w1.heap.size w1 w2 := by rw [hw2]; exact (Below.refl _ _).alloc (Nat.le_refl _) _
    have hs2 : w2.heap.size = w1.heap.size + 1 := by rw [hw2]; simp
    clear hw2
    obtain ⟨Bs, hBs⟩ : ∃ Bs, Bs = w1.heap.size := ⟨_, rfl⟩
    rw [← hBs] at cS hs2 ⊢
    have HB2 := Lib.hid (HB1.out.trans (hb2.mono HB1.out.size))
    have HST2 := Lib.hid (HST.out.below hb2)
    have HBs := Lib.hid hBs
    clear hb2 hBs
    gi_wp2_with fail
    have hlb2 : b < w2.heap.size := by have := HB0.out.size; have := HB2.out.size; omega
    have hlm2 : mb < w2.heap.size := by have := HB0.out.size; have := HB2.out.size; omega
    have hla2 : a2 < w2.heap.size := by have := HBC.out.lt; have := HB2.out.size; omega
    have hw2 : Below w.heap.size w w2 := HB0.out.trans (HB2.out.mono HB0.out.size)
    have hD2 : DiskAt w2 b mb m := HD.out.only (Only.of_below (S := fun _ => False) hw2) (fun h => h) (fun h => h)
    have hC2 : Blk w2 a2 #[.int .i64 0] 26 := HBC.out.below HB2.out HBC.out.lt
    have hle0 : w0.heap.size ≤ Bs := by rw [HBs.out]; exact HB1.out.size
    have h0w := HB0.out.size
    have hac := HBC.out.lt
    have hks1 : ¬ loopOwn b mb a2 w2.heap.size Bs := by rintro (e | e | e | e) <;> omega
    have hks2 : ∀ b' o n c', (Value.slice ad l.length c) = .slice (some ⟨b', o, none⟩) n c' → 0 < l.length → ¬ loopOwn b mb a2 w2.heap.size b' := by
      intro b' o n c' hv hl0
      have h1 := HBL.out b' (by rw [hv]; rfl)
      obtain ⟨_, _, hv2, _, hc9⟩ := HST.out.out
      obtain ⟨b9, o9, e9, l9, _⟩ := hc9 hl0
      have h2 : b' < w1.heap.size := by
        rw [e9] at hv2
        rw [hv2] at hv
        injection hv with hv _ _
        injection hv with hv
        injection hv with hv
        omega
      have h3 := HBs.out
      rintro (e | e | e | e) <;> omega
    have HD2 := Lib.hid hD2
    have HC2 := Lib.hid hC2
    have HW2 := Lib.hid hw2
    clear hD2 hC2 hw2
    refine wpIn_rangeFunc_ownG (α := BackX) rfl (by omega) (gf := 75) (lb := #[.pointer (some ⟨Bs, 0, none⟩)]) rfl trivial (enters_of Tryz.func75 (by kernel_rfl) rfl)
      (back_stops 4 (by omega) Bs (.slice ad l.length c) l hok (loopOwn b mb a2 w2.heap.size) w2 cS HST2.out hks1 hks2)
      (fun {A B C} h k => h.trans k) (fun W lp o o' hlp ho hoc _ => Only.of_grownBy (grownBy_putObj' W lp o') (fun k hk => by cases hk; exact .inr (.inr (.inr hlp)))) (Below.refl _ _) (fun _ => rfl)
      (LoopI m at_ b mb a2 w2) (LoopX m at_ b mb a2 w2) (loopI_own hlb2 hlm2 hla2) (loopX_own hlb2 hlm2 hla2) ⟨m, rfl, HD2.out, Only.refl _ _, HC2.out⟩ ?a1 ?assign ?body ?done ?stop
    case assign =>
      intro lp x W K hK
      unfold encBack
      gi_wp2
      exact hK
    case body =>
      rintro lp pre x W ⟨m', h1, h2, h3, h4⟩ hlt
      have nA : ¬ loopOwn b mb a2 w2.heap.size w.heap.size := by
        have := HA2.out; have := HB2.out.size
        rintro (e | e | e | e) <;> omega
      have nB : ¬ loopOwn b mb a2 w2.heap.size a1 := by
        have := HA2.out; have := HA1.out; have := HB2.out.size
        rintro (e | e | e | e) <;> omega
      have la : w.heap.size < w0.heap.size := World.block_lt_of_cell? w0 _ cA
      have lb1 : a1 < w0.heap.size := World.block_lt_of_cell? w0 _ cB
      have l2 := HB2.out.size
      have kA : W.cell? ⟨w.heap.size, 0, none⟩ = some (.pointer (some ⟨b, 0, none⟩)) := (h3.cell (p := ⟨w.heap.size, 0, none⟩) (Nat.lt_of_lt_of_le la l2) nA).trans ((HB2.out.cell (p := ⟨w.heap.size, 0, none⟩) la).trans cA)
      have kB : W.cell? ⟨a1, 0, none⟩ = some (.int .i64 at_) := (h3.cell (p := ⟨a1, 0, none⟩) (Nat.lt_of_lt_of_le lb1 l2) nB).trans ((HB2.out.cell (p := ⟨a1, 0, none⟩) lb1).trans cB)
      obtain ⟨⟨i, y⟩, hi, hy⟩ := x
      have hi : i ≤ 1000000000 := hi
      have hy : y.size ≤ maxLen := hy
      have mw : IntKind.i64.wrap (at_ + (i : Int)) = at_ + (i : Int) := by rw [IntKind.wrap_i64]; omega
      have hn := wrL_snoc at_ ⟨(i, y), hi, hy⟩ pre m m' h1
      have hn : wrL m at_ (pre ++ [⟨(i, y), hi, hy⟩]) = m'.write (at_ + (i : Int)) y := hn
      have H1 := Lib.hid hn
      have H2 := Lib.hid h2
      have H3 := Lib.hid h3
      have H4 := Lib.hid h4
      clear hn h1 h2 h3 h4 nA nB la lb1 l2
      dsimp only
      gi_wp2_with fail
      refine ⟨trivial, ?_⟩
      refine (CallsIn.inRound lp (callsIn_wide.2 (write_any b mb m' (at_ + (i : Int)) y W H2.out hy))).mono ?_
      rintro e W2 ⟨rfl, hd2, ho2⟩
      have hbk : Blk W2 a2 #[.int .i64 0] 26 := ho2.blk H4.out (by have := HA2.out; rintro (e | e) <;> omega)
      have hkf : KeepsFrom w2.heap.size W W2 := ⟨ho2.size, fun k o hB hk _ => (ho2.block k (Nat.lt_of_not_le (fun hge => by rw [Array.getElem?_eq_none hge] at hk; cases hk)) (by rintro (e | e) <;> omega)).trans hk⟩
      have hon : Only (loopOwn b mb a2 w2.heap.size) W W2 := ho2.mono (fun k _ hk => by rcases hk with e | e; exact .inl e; exact .inr (.inl e))
      obtain ⟨r, hr⟩ : ∃ r, r = m'.write (at_ + (i : Int)) y := ⟨_, rfl⟩
      have HR : Hid (wrL m at_ (pre ++ [⟨(i, y), hi, hy⟩]) = r) := Lib.hid (by rw [H1.out, hr])
      rw [← hr] at hd2 ⊢
      clear hr H1
      obtain ⟨m2, er⟩ := r
      dsimp only at hd2 ⊢
      have HD9 := Lib.hid hd2
      have HBK := Lib.hid hbk
      have HKF := Lib.hid hkf
      have HON := Lib.hid hon
      clear hd2 ho2 hbk hkf hon
      by_cases he : er = 0
      · have g1 : (er != 0) = false := by rw [he]; rfl
        gi_wp2_with fail
        exact ⟨HKF.out, HON.out, m2, by rw [HR.out, he], HD9.out, H3.out.trans HON.out, HBK.out⟩
      · have g1 : (er != 0) = true := by simpa using he
        have cC := HBK.out.cell 0
        have fC := HBK.out.free 0
        simp only [List.getElem?_toArray, List.getElem?_cons_zero] at cC
        gi_wp2_with fail
        have hcc : (W2.setCell ⟨a2, 0, none⟩ (.int .i64 er)).cell? ⟨a2, 0, none⟩ = some (.int .i64 er) := (HBK.out.setCell 0 (.int .i64 er)).cell 0
        have ho3 : Only (fun k => k = a2) W2 (W2.setCell ⟨a2, 0, none⟩ (.int .i64 er)) := (Only.refl (fun k => k = a2) W2).setCell (p := ⟨a2, 0, none⟩) (fun _ => rfl) _
        refine ⟨HKF.out.trans ((KeepsOthers.setCell _ _ _).from _), rfl, m2, er, HR.out, he, HD9.out.only ho3 (by have := HA2.out; omega) (by have := HA2.out; omega), (H3.out.trans HON.out).trans (ho3.mono (fun k _ hk => .inr (.inr (.inl hk)))), hcc, ?_⟩
        simp
        exact HBK.out.lt
    case done =>
      rintro D ys W hD rfl ⟨m', h1, h2, h3, h4⟩ hK
      have cC := h4.cell 0
      have fC := h4.free 0
      simp only [List.getElem?_toArray, List.getElem?_cons_zero] at cC
      have H1 := Lib.hid h1
      have H2 := Lib.hid h2
      have H3 := Lib.hid h3
      have H4 := Lib.hid h4
      clear h1 h2 h3 h4
      gi_wp2_with fail
      have hcc : (W.setCell ⟨a2, 0, none⟩ (.int .i64 0)).cell? ⟨a2, 0, none⟩ = some (.int .i64 0) := (H4.out.setCell 0 (.int .i64 0)).cell 0
      have hne : ¬ D = a2 := by omega
      have hK2 : (W.setCell ⟨a2, 0, none⟩ (.int .i64 0)).heap[D]? = some (.deferred (some [])) := (Below.heap_setCell W ⟨a2, 0, none⟩ (.int .i64 0) D hne).trans hK
      have hg := grownBy_putObj' (W.setCell ⟨a2, 0, none⟩ (.int .i64 0)) D (.deferred none)
      have hoD : Only (fun k => k = D) (W.setCell ⟨a2, 0, none⟩ (.int .i64 0)) ((W.setCell ⟨a2, 0, none⟩ (.int .i64 0)).putObj D (.deferred none)) := Only.of_grownBy hg (fun k hk => by cases hk; rfl)
      have ho3 : Only (fun k => k = a2) W (W.setCell ⟨a2, 0, none⟩ (.int .i64 0)) := (Only.refl (fun k => k = a2) W).setCell (p := ⟨a2, 0, none⟩) (fun _ => rfl) _
      have hal : a2 < (W.setCell ⟨a2, 0, none⟩ (.int .i64 0)).heap.size := by simp; exact H4.out.lt
      have hfin : (writeF m at_ num s) = (m', 0) := by
        have hmk : makeF num s = (l, 0) := by rw [HL.out]; exact makeF_some num s h0 hs6
        unfold writeF
        rw [hmk]
        have := wrF_wrL m at_ l hok
        rw [this]
        exact H1.out
      refine ⟨by simp, .inl ⟨_, _, rfl, run_takeDeferred hK2, ?_⟩⟩
      refine ⟨_, results_cell_one rfl _ _ a2 _ rfl ((hoD.cell (p := ⟨a2, 0, none⟩) hal (fun h => hne h.symm)).trans hcc) errno_u, ?_⟩
      rw [hfin]
      refine ⟨rfl, (H2.out.only ho3 (by have := HA2.out; omega) (by have := HA2.out; omega)).only hoD (by omega) (by omega), ?_⟩
      exact loop_only HW2.out (by have := HA2.out; omega) ((H3.out.trans (ho3.mono (fun k _ hk => .inr (.inr (.inl hk))))).trans (hoD.mono (fun k _ hk => .inr (.inr (.inr (by rw [hk]; exact hD))))))
    case stop =>
      rintro D cd pre W hD ⟨kk, hkk, rfl⟩ ⟨rfl, m', er, h1, h2, h3, h4, h5, h6⟩ hK
      have hg := grownBy_putObj' W D (.deferred none)
      have hoD : Only (fun k => k = D) W (W.putObj D (.deferred none)) := Only.of_grownBy hg (fun k hk => by cases hk; rfl)
      have hne : ¬ a2 = D := by omega
      have hfin : (writeF m at_ num s) = (m', er) := by
        have hmk : makeF num s = (l, 0) := by rw [HL.out]; exact makeF_some num s h0 hs6
        unfold writeF
        rw [hmk]
        have := wrF_wrL m at_ l hok
        rw [this]
        exact wrL_prefix m at_ l hok kk hkk m' er h1 h2
      gi_wp2_with fail
      refine ⟨by simp, .inl ⟨_, _, rfl, run_takeDeferred hK, ?_⟩⟩
      refine ⟨_, results_cell_one rfl _ _ a2 _ rfl ((hoD.cell (p := ⟨a2, 0, none⟩) h6 hne).trans h5) errno_u, ?_⟩
      rw [hfin]
      refine ⟨rfl, h3.only hoD (by omega) (by omega), ?_⟩
      exact loop_only HW2.out (by have := HA2.out; omega) (h4.trans (hoD.mono (fun k _ hk => .inr (.inr (.inr (by rw [hk]; exact hD))))))
end Go.Proofs.YtcakellhellddaaGreatDoor
