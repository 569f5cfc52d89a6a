import Derived.Test.YtimiehnknehagaaKeysP
import Derived.Test.YtimiehnknehagaaSteps
set_option linter.unusedSimpArgs false
set_option linter.unusedVariables false
namespace Go.Proofs.Ytimiehnknehagaa
open Go.RowKit Go.Shelf
attribute [local go_sem] Oper.semAt_some
theorem keys_stops (n : Nat) (hn : 1 ≤ n) (Bm b N : Nat) (f : Int × Int → Option Value) (hN : ∀ ks : List (Int × Int), ks.Nodup → (∀ k ∈ ks, (f k).isSome = true) → ks.length ≤ N) (w : World) (hBm : w.cell? ⟨Bm, 0, none⟩ = some (.map (some b))) (hM : MapIs w encK b f) :
    SeqStopsK Fence.wide n Try.prog 41 #[.pointer (some ⟨Bm, 0, none⟩)] (fun k => #[encK k]) KeepsWalks (KeysOf f) (fun _ => True) N w := fun lp J Jx W hW hJ _ hY h0 =>
  keys1_in n hn lp Bm b N f hN J Jx hY W hJ ((hW.cell (p := ⟨Bm, 0, none⟩) (World.block_lt_of_cell? w ⟨Bm, 0, none⟩ hBm)).trans hBm) (hM.of_block (hW.block b hM.lt)) h0
/-- The cells of a row of pairs. -/
def cellsK (ks : List (Int × Int)) : List Value := ks.flatMap fun k => [.int .i64 k.1, .int .i64 k.2]
theorem cellsK_app (a b : List (Int × Int)) : cellsK (a ++ b) = cellsK a ++ cellsK b := List.flatMap_append
theorem cellsK_len (ks : List (Int × Int)) : (cellsK ks).length = ks.length * 2 := by
  unfold cellsK
  induction ks with
  | nil => rfl
  | cons k ks ih => rw [List.flatMap_cons, List.length_append, ih]; simp; omega
/-- Between two rounds: what has come lies in a row of the call's own. -/
def ApI (w0 : World) (Bs : Nat) (ks : List (Int × Int)) (W : World) : Prop :=
  ∃ v, Blk W Bs #[v] 76 ∧ W.ownsRow w0.heap.size 63 2 v ks.length (cellsK ks) ∧ Below w0.heap.size w0 W
theorem own_ne {W : World} {base B n s : Nat} {e t : TypeId} {v : Value} {xs : List Value} {cs : Array Value} (h : W.ownsRow base e s v n xs) (hb : Blk W B cs t) (hne : t ≠ e) : v.ownBlock ≠ some B := fun hv => by
  rcases h.2 with ⟨rfl, _⟩ | ⟨g, cap, cur, rfl, _, hgb, _⟩
  · cases hv
  · have : g = B := by simpa [Value.ownBlock] using hv
    subst this
    have hb := hb.out
    rw [hgb] at hb
    injection hb with hb
    injection hb with _ hb _
    exact hne hb.symm
theorem apI_own {w0 : World} {Bs B : Nat} (hB : w0.heap.size ≤ B) : OwnFrom B (ApI w0 Bs) := by
  rintro ks W W' row ⟨v, h1, h2, h3⟩ hg hr
  refine ⟨v, ?_, h2.kept hg ?_, h3.grown hg h3.size (fun k e => Nat.le_trans hB (hr k e).1)⟩
  · refine (hg.block Bs h1.lt (fun e => ?_)).trans h1
    obtain ⟨_, o, ho, hc⟩ := hr Bs e.symm
    rw [h1.out] at ho; cases ho; cases hc
  · rcases h2.2 with ⟨rfl, _⟩ | ⟨g, cap, cur, rfl, _, hgb, _⟩
    · exact .inl rfl
    · refine .inr fun e' => ?_
      obtain ⟨_, o, ho, hc⟩ := hr g (by rw [← e']; rfl)
      rw [hgb] at ho; cases ho; cases hc
theorem two_new (W : World) (x : Int × Int) : ∀ j u, [Value.int .i64 x.1, Value.int .i64 x.2][j]? = some u → (W.alloc (.cells #[.int .i64 x.1, .int .i64 x.2] 63)).cell? ((⟨W.heap.size, 0, none⟩ : Addr).add j) = some u := by
  intro j u hj
  rw [Addr.add_mid, Nat.zero_add, (Blk.new W #[.int .i64 x.1, .int .i64 x.2] 63).cell]
  simpa using hj
theorem key_info : (Try.prog.info? 63).map (fun i => (i.zero, i.size, i.bytes)) = some (some (.agg #[.int .i64 0, .int .i64 0]), 2, 16) := by kernel_rfl
theorem sl_key : Try.prog.underlying 76 = some (.slice 63) := by kernel_rfl
set_option maxRecDepth 100000 in
set_option maxHeartbeats 2000000 in
theorem appendSeq_any (Bm b N : Nat) (hNb : N ≤ 1000000) (f : Int × Int → Option Value) (hN : ∀ ks : List (Int × Int), ks.Nodup → (∀ k ∈ ks, (f k).isSome = true) → ks.length ≤ N) (w : World) (hBm : w.cell? ⟨Bm, 0, none⟩ = some (.map (some b))) (hM : MapIs w encK b f) :
    Calls Try.prog 43 #[.slice none 0 0, .func (.func 41) #[] #[.pointer (some ⟨Bm, 0, none⟩)]] w fun e w' => ∃ v ks, e = .returned v ∧ KeysOf f ks ∧ w'.ownsRow w.heap.size 63 2 v ks.length (cellsK ks) ∧ Below w.heap.size w w' := by
  obtain ⟨i0, hi, hz0, hz1, hz2⟩ := info_parts key_info
  have lBm := World.block_lt_of_cell? w ⟨Bm, 0, none⟩ hBm
  refine (callsIn_wide (n := 5)).1 ?_
  refine callsIn_of_wp_marks Try.func43 rfl trivial ?_ rfl
  simp only [Try.ntmps43, List.size_toArray, List.length_cons, List.length_nil, Nat.reduceAdd, Nat.reduceSub, Array.replicate_succ, Array.replicate_zero, List.push_toArray, List.append_toArray, List.nil_append, List.cons_append]
  gi_wp2_with fail
  obtain ⟨w0, hw0⟩ : ∃ w0, w0 = w.alloc (.cells #[.slice none 0 0] 76) := ⟨_, rfl⟩
  have hb0 : Below w.heap.size w w0 := by rw [hw0]; exact (Below.refl _ _).alloc (Nat.le_refl _) _
  have hk0 : Blk w0 w.heap.size #[.slice none 0 0] 76 := by rw [hw0]; exact Blk.new _ _ _
  rw [← hw0]
  have hs0 := hb0.size
  clear hw0
  refine wpIn_rangeFunc_ownH (α := Int × Int) rfl (by omega) (gf := 41) (lb := #[.pointer (some ⟨Bm, 0, none⟩)]) rfl trivial (enters_of Try.func41 (by kernel_rfl) rfl)
    (keys_stops 4 (by omega) Bm b N f hN w hBm hM) (fun {A B C} h k => h.trans k) walksK_b hb0 (fun _ => rfl)
    (ApI w w.heap.size) (fun _ _ _ => False) (apI_own hs0) (fun _ _ _ _ _ h _ _ => h) ⟨_, hk0, ⟨rfl, .inl ⟨rfl, rfl⟩⟩, hb0⟩
    (fun x a' W => ∃ nb, nb < W.heap.size ∧ a' = ⟨#[.slice none 0 0, .func (.func 41) #[] #[.pointer (some ⟨Bm, 0, none⟩)], .pointer (some ⟨w.heap.size, 0, none⟩), undef, .slice none 0 0, .pointer (some ⟨nb, 0, none⟩), .func (.func 41) #[] #[.pointer (some ⟨Bm, 0, none⟩)], encK x, undef, undef, undef, undef, undef], []⟩ ∧ Blk W nb #[.int .i64 x.1, .int .i64 x.2] 63) ?ax ?assign ?body ?done ?stop
  case ax =>
    rintro x a' _ W W' row ⟨nb, h1, h2, h3⟩ hg hr
    refine ⟨nb, Nat.lt_of_lt_of_le h1 hg.size, h2, (hg.block nb h1 (fun e => ?_)).trans h3⟩
    obtain ⟨_, o, ho, hc⟩ := hr nb e.symm
    rw [h3.out] at ho; cases ho; cases hc
  case assign =>
    rintro lp pre x W K hI hK
    unfold encK at hK ⊢
    gi_wp2_with fail
    have hI2 : ApI w w.heap.size pre (W.alloc (.cells #[.int .i64 x.1, .int .i64 x.2] 63)) := apI_own hs0 pre W _ none hI (World.grownBy_alloc W _ none) (fun r e => by cases e)
    exact hK _ _ ⟨by simp, fun k o _ hk _ => (Below.heap_alloc W _ k (Array.getElem?_eq_some_iff.1 hk).1).trans hk⟩ (KeepsWalks.alloc _ _) hI2 ⟨W.heap.size, by simp, rfl, Blk.new _ _ _⟩
  case body =>
    rintro lp pre x a' W hlp _ ⟨v, h1, h2, h3⟩ ⟨nb, hn1, rfl, hn3⟩ hlt
    have H3 := Lib.hid h3
    have H2 := Lib.hid h2
    have H1 := Lib.hid h1
    have HN3 := Lib.hid hn3
    have c1 : W.cell? ⟨w.heap.size, 0, none⟩ = some v := h1.cell 0
    have f1 := h1.free 0
    have n0 : W.cell? ⟨nb, 0, none⟩ = some (.int .i64 x.1) := hn3.cell 0
    have n1 : W.cell? ⟨nb, 1, none⟩ = some (.int .i64 x.2) := hn3.cell 1
    clear h1 h2 h3 hn3
    have hlen : pre.length + 1 ≤ 1000000 := by omega
    have hsz := H3.out.size
    have hown2 : (W.alloc (.cells #[.int .i64 x.1, .int .i64 x.2] 63)).ownsRow w.heap.size 63 2 v pre.length (cellsK pre) := H2.out.alloc _
    have hbx : Blk (W.alloc (.cells #[.int .i64 x.1, .int .i64 x.2] 63)) w.heap.size #[v] 76 := H1.out.alloc _
    have hne := own_ne hown2 hbx (by decide)
    gi_wp2_with (first
      | (gi_at_builtin; refine wpListIn_append_own_at (w := _) rfl _ _ 76 rfl w.heap.size 63 i0 _ 2 16 sl_key hi hz0 hz1 hz2 rfl (by decide) v pre.length (cellsK pre) rfl (H2.out.alloc _) ⟨W.heap.size, 0, none⟩ 1 1 [.int .i64 x.1, .int .i64 x.2] rfl rfl (two_new W x) (by simp [Value.oneCell']) (by unfold maxLen; omega) (by omega) (by simp; omega) ?_; intro v9 w9 ho9 hg9 _ hv9; obtain ⟨g9, cap9, hv10⟩ := own_slice ho9; subst hv10; have hb9 : Blk w9 w.heap.size #[v] 76 := (hg9.block _ hbx.lt (fun e => hne e.symm)).trans hbx; have d1 : w9.cell? ⟨w.heap.size, 0, none⟩ = some v := hb9.cell 0; have d2 := hb9.free 0)
      | gi_in)
    have hcb := ho9
    have ho2 : Only (fun k => k = w.heap.size) w9 (w9.setCell ⟨w.heap.size, 0, none⟩ (.slice (some ⟨g9, 0, none⟩) (pre.length + 1) cap9)) := (Only.refl (fun k => k = w.heap.size) w9).setCell (p := ⟨w.heap.size, 0, none⟩) (fun _ => rfl) _
    have hstay : ∀ (k : Nat) (o : Obj), W.heap[k]? = some o → o.isCells = false → (w9.setCell ⟨w.heap.size, 0, none⟩ (.slice (some ⟨g9, 0, none⟩) (pre.length + 1) cap9)).heap[k]? = some o := fun k o hk hc => by
      have h1 : (W.alloc (.cells #[.int .i64 x.1, .int .i64 x.2] 63)).heap[k]? = some o := (Below.heap_alloc W _ k (Array.getElem?_eq_some_iff.1 hk).1).trans hk
      have h2 : w9.heap[k]? = some o := (hg9.block k (Array.getElem?_eq_some_iff.1 h1).1 (fun e => by
        rcases hown2.2 with ⟨rfl, _⟩ | ⟨g, cap, cur, rfl, _, hgb, _⟩
        · cases e
        · have : g = k := by simpa [Value.ownBlock] using e.symm
          subst this
          rw [h1] at hgb; cases hgb; cases hc)).trans h1
      refine (ho2.block k (Array.getElem?_eq_some_iff.1 h2).1 (fun e => ?_)).trans h2
      subst e
      rw [hb9.out] at h2; cases h2; cases hc
    have hbx9 : Below w.heap.size w w9 := ((H3.out.alloc hsz _).grown hg9 (by simp; omega) (fun k e => (hown2.lt k e).1))
    have hne9 := own_ne ho9 hb9 (by decide)
    refine ⟨⟨Nat.le_trans (Nat.le_trans (Nat.le_succ _) (by have := hg9.size; simpa using this)) ho2.size, fun k o _ => hstay k o⟩, ⟨Nat.le_trans (Nat.le_trans (Nat.le_succ _) (by have := hg9.size; simpa using this)) ho2.size, fun k o hk hw => hstay k o hk (by cases o <;> simp_all [Obj.isWalk, Obj.isCells])⟩, _, hb9.setCell 0 _, ?_, hbx9.trans (ho2.below hbx9.size (fun k hk e => by omega))⟩
    rw [cellsK_app, List.length_append, List.length_singleton]
    exact ho9.kept ⟨ho2.os, ho2.tape, ho2.output, ho2.size, fun i hi hn => ho2.block i hi (fun e => hn (by rw [e]))⟩ (.inr hne9)
  case done =>
    rintro D ks W hD hS ⟨v, h1, h2, h3⟩ hK
    have H3 := Lib.hid h3
    have H2 := Lib.hid h2
    have c1 : W.cell? ⟨w.heap.size, 0, none⟩ = some v := h1.cell 0
    clear h1 h2 h3
    gi_wp2_with fail
    refine ⟨by simp, .inl ⟨_, _, rfl, run_takeDeferred hK, ?_⟩⟩
    have hg := grownBy_putObj' W D (.deferred none)
    refine ⟨_, results_tmp rfl _ _ _, v, ks, rfl, hS, H2.out.kept hg ?_, H3.out.grown hg H3.out.size (fun k e => by cases e; exact Nat.le_trans hs0 hD)⟩
    rcases H2.out.2 with ⟨rfl, _⟩ | ⟨g, cap, cur, rfl, _, hgb, _⟩
    · exact .inl rfl
    · refine .inr fun e => ?_
      have : g = D := by simpa [Value.ownBlock] using e
      subst this
      rw [hK] at hgb; cases hgb
  case stop =>
    rintro D c pre W _ _ h _
    exact h.elim
theorem collect_any (Bm b N : Nat) (hNb : N ≤ 1000000) (f : Int × Int → Option Value) (hN : ∀ ks : List (Int × Int), ks.Nodup → (∀ k ∈ ks, (f k).isSome = true) → ks.length ≤ N) (w : World) (hBm : w.cell? ⟨Bm, 0, none⟩ = some (.map (some b))) (hM : MapIs w encK b f) :
    Calls Try.prog 39 #[.func (.func 41) #[] #[.pointer (some ⟨Bm, 0, none⟩)]] w fun e w' => ∃ v ks, e = .returned v ∧ KeysOf f ks ∧ w'.ownsRow w.heap.size 63 2 v ks.length (cellsK ks) ∧ Below w.heap.size w w' := by
  have hm := Lib.hid hM
  have hn := Lib.hid hN
  clear hM hN
  go_enter Try.func39, Try.ntmps39
  go_wp2_with fail
  refine (appendSeq_any Bm b N hNb f hn.out w hBm hm.out).mono ?_
  rintro e w1 ⟨v, ks, rfl, h1, h2, h3⟩
  go_wp2_with fail
  go_ret
  exact ⟨v, ks, rfl, h1, h2, h3⟩
theorem keys_any (b : Nat) (w : World) : Calls Try.prog 35 #[.map (some b)] w fun e w' => e = .returned (.func (.func 41) #[] #[.pointer (some ⟨w.heap.size, 0, none⟩)]) ∧ w' = w.alloc (.cells #[.map (some b)] 60) := by
  have hmf : ∀ (fn : Fn) (first cap : Array Value) (w : World), (Instr.makeFunc fn first cap).run Try.prog w = .ok (.func fn first cap) w := fun _ _ _ _ => rfl
  go_enter Try.func35, Try.ntmps35
  go_wp2
  go_ret
  exact ⟨rfl, rfl⟩
end Go.Proofs.Ytimiehnknehagaa
